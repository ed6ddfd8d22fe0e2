/-
  Part 20 of the proof: what functions return, and plain facts (Mlocal Mcmp Mcmp2). Conditions: each theorem names its own.
-/
import Derived.Test.YthoojcdjjecogaaGreatDoorG19
import Derived.Test.YthoojcdjjecogaaGreatDoorG17
set_option maxRecDepth 1000000
set_option maxHeartbeats 16000000
namespace Go.Proofs.YthoojcdjjecogaaGreatDoor
open Go Go.RowKit Go.Ex
namespace Mo
def secT (x : Mo) : Int := Dc.at_ 60 (rawD x.n x.s x.S)
def day (x : Mo) : Int := dayN (counted x.y) x.m x.d
def TL (x : Mo) : Int := (if x.k = 1 then 0 else secT x) + Dc.U * (3600 * x.h + 60 * x.i + (if x.k = 2 then 0 else 86400 * day x))
def TA (x : Mo) : Int := TL x - Dc.U * (60 * x.o)
end Mo
theorem sec_lt {x : Mo} (h : x.secB = true) : okB x.n x.s x.S = true /\ x.n = false /\ 0 <= x.secT /\ x.secT < 60 * Dc.U := by
 unfold Mo.secB at h
 simp only [Bool.and_eq_true, Bool.not_eq_true', decide_eq_true_eq] at h
 obtain ⟨h1, h2, h3⟩ := h
 have k := okB_ok h1
 have h6 : Dc.ok (false, 60, 0) := Dc.int_ok (k := 60) (by decide)
 rw [sec_cmp, if_pos h1] at h3
 simp only at h3
 rw [Dc.cmp60 k.can h6, show Dc.at_ 60 (false, 60, 0) = 60 * Dc.U from rfl] at h3
 refine ⟨h1, h2, ?_, ?_⟩
 ·have := Dc.at_neg (K := 60) k.can
  rcases Int.lt_or_le x.secT 0 with c | c
  ·have q := this.1 c
   rw [show (rawD x.n x.s x.S).1 = x.n from rfl, h2] at q
   cases q
  ·exact c
 ·show Dc.at_ 60 (rawD x.n x.s x.S) < _
  split at h3
  ·assumption
  ·split at h3 <;> omega
theorem sec_small {T : Int} (h0 : 0 <= T) (h1 : T < 60 * Dc.U) : Small T /\ 0 <= T / Dc.U /\ T / Dc.U < 60 := by
 have hU := Dc.U_pos
 have e := Dc.parts T
 obtain ⟨b0, b1⟩ := Dc.emod_bd T
 have q0 : 0 <= T / Dc.U := Int.ediv_nonneg h0 (by omega)
 have q1 : T / Dc.U < 60 := Int.ediv_lt_of_lt_mul hU h1
 exact ⟨⟨by omega, by omega⟩, q0, q1⟩
theorem day_bd {x : Mo} (h : Mo.dateOk x) : -4000000 <= x.day /\ x.day <= 4000000 := by
 obtain ⟨h1, h2, h3, h4, h5, h6, h7⟩ := h
 obtain ⟨a, b⟩ := Mo.dayN_bd h4 h5 h6 h7
 have e : -9998 <= Mo.counted x.y /\ Mo.counted x.y <= 9999 := by unfold Mo.counted; split <;> omega
 unfold Mo.day
 unfold Mo.bef at a b
 omega
theorem cnt_bd {x : Mo} (h : Mo.dateOk x) : -9998 <= Mo.counted x.y /\ Mo.counted x.y <= 9999 := by
 obtain ⟨h1, h2, h3, _⟩ := h
 unfold Mo.counted; split <;> omega
theorem day_le {x : Mo} (h : Mo.dateOk x) : x.d <= 31 := by
 obtain ⟨_, _, _, _, _, _, h7⟩ := h
 have := Mo.dim_bd (Mo.counted x.y) x.m
 omega
theorem ptL_add (T W : Int) : ptL (T + Dc.U * W) = .int .i64 (T / Dc.U + W) :: decL (Dc.frac (T % Dc.U)) := by
 have hU := Dc.U_pos
 unfold ptL
 rw [Int.add_mul_ediv_left _ _ (by omega), Int.add_mul_emod_self_left]
theorem ptL_zero (W : Int) : ptL (0 + Dc.U * W) = [.int .i64 W, .bool false, .string ⟨#[48]⟩, .int .i64 0] := by
 rw [ptL_add]
 rw [show (0 : Int) / Dc.U = 0 from by decide, show (0 : Int) % Dc.U = 0 from by decide]
 have e : Dc.frac 0 = (false, 0, 0) := by
  have h := (Dc.frac_ok (r := 0) (Int.le_refl _) Dc.U_pos)
  exact Dc.at_inj60 h.1 Dc.zero_ok (by rw [h.2.2]; rfl)
 rw [e, Int.zero_add]
 rfl
def ze : V := .agg [.bool false, .str [48], it 0]
def loE (x : Mo) : List Value := x.list ++ ptL x.secT ++ [.int .i64 (Mo.counted x.y), .int .i64 x.day]
theorem ok_date {x : Mo} (h : Mo.Ok x) (hk : x.k ≠ 2) : Mo.dateOk x := by have := h.2.2.2.2.1; rwa [if_neg hk] at this
theorem ok_time {x : Mo} (h : Mo.Ok x) (hk : x.k ≠ 1) : Mo.timeOk x := by have := h.2.2.2.2.2; rwa [if_neg hk] at this
theorem ok_notime {x : Mo} (h : Mo.Ok x) (hk : x.k = 1) : Mo.noTime x := by have := h.2.2.2.2.2; rwa [if_pos hk] at this
theorem sec_is {x : Mo} (h : x.secB = true) : Sec x.n x.s x.S x.secT := ⟨(sec_lt h).1, rfl, (sec_small (sec_lt h).2.2.1 (sec_lt h).2.2.2).1⟩
def plo1 : X := (.add .i64 (.add .i64 (.int 0) (.add .i64 (.mul .i64 (.int 3600) (.at 5)) (.mul .i64 (.int 60) (.at 6)))) (.mul .i64 (.int 86400) (.at 17)))
def ploC1 : List CallX := [⟨108, [it 0], [], ze⟩, ⟨107, [xi 2], [], xi 16⟩, ⟨131, [xi 16, xi 3, xi 4], [], xi 17⟩]
theorem prun_local1 : chk (runTr Tryz.prog nG (fun _ => none) gd moT ploC1 100 112 [moK 1 1] h0) (.leaf (.agg [.xi .i64 plo1, .bool false, .str [48], it 0])) [] = true := by decide +kernel
theorem plocal1_is (x : Mo) (h : Mo.Ok x) (hk : x.k = 1) (w : World) (M : Int) (hV : Vars M w) : Calls Tryz.prog 112 #[x.val] w fun e w' => e = .returned (.agg (ptL x.TL).toArray) /\ Below w.heap.size w w' := by
 have hd := ok_date h (by omega)
 have hc := cnt_bd hd
 have hdl := day_le hd
 have hdb := day_bd hd
 obtain ⟨q1, q2, q3, q4, q5, q6, q7⟩ := hd
 have hm : 1 <= x.m /\ x.m <= 12 := ⟨q4, q5⟩
 obtain ⟨g1, g2, _⟩ := ok_notime h hk
 have hcx : AllX Tryz.prog (envE (.int .i64 M :: loE x)) (Vars M) ploC1 := ⟨⟨rfl, fk, fun _ L w hV => pOf_any 0 (by decide) (by decide) w hV.pow⟩, ⟨rfl, fk, fun _ L w hV => pcounted_is x.y (by omega) w M hV⟩, ⟨rfl, fk, fun _ L w hV => pdays_is (Mo.counted x.y) x.m x.d (by omega) (by omega) hm.1 hm.2 (by omega) (by omega) w M hV⟩, trivial⟩
 have hr := tree_run (env := loE x) prun_local1 hcx rfl trivial rfl hV
 have eT : x.TL = 0 + Dc.U * (86400 * x.day) := by
  unfold Mo.TL
  rw [if_pos hk, if_neg (by omega), g1, g2]; congr 1; congr 1; omega
 have ev : (plo1).evI (envE (.int .i64 M :: loE x)) = 86400 * x.day := by
  have e : (plo1).evI (envE (.int .i64 M :: loE x)) = IntKind.i64.wrap (IntKind.i64.wrap (0 + IntKind.i64.wrap (IntKind.i64.wrap (3600 * x.h) + IntKind.i64.wrap (60 * x.i))) + IntKind.i64.wrap (86400 * x.day)) := rfl
  rw [e, w64 (n := 3600 * x.h) (by omega) (by omega), w64 (n := 60 * x.i) (by omega) (by omega), w64 (n := 3600 * x.h + 60 * x.i) (by omega) (by omega), w64 (n := 0 + (3600 * x.h + 60 * x.i)) (by omega) (by omega), w64 (n := 86400 * x.day) (by omega) (by omega), w64 (by omega) (by omega)]
  all_goals omega
 have hval : V.den L0 (envE (.int .i64 M :: loE x)) ((Tree.leaf (.agg [.xi .i64 plo1, .bool false, .str [48], it 0])).at (envE (.int .i64 M :: loE x))) = .agg (ptL x.TL).toArray := by
  rw [eT, ptL_zero, <- ev]
  rfl
 rw [hval] at hr
 obtain ⟨k, y, m, d, hh, i, n, s, S, z, o⟩ := x
 simp only at hk; subst hk
 exact hr
def plo2 : X := (.add .i64 (.at 12) (.add .i64 (.mul .i64 (.int 3600) (.at 5)) (.mul .i64 (.int 60) (.at 6))))
def ploC2 : List CallX := [⟨108, [it 0], [], ze⟩, ⟨130, [deV 7], [], ptV 12⟩]
theorem prun_local2 : chk (runTr Tryz.prog nG (fun _ => none) gd moT ploC2 100 112 [moK 2 1] h0) (.leaf (.agg [.xi .i64 plo2, xb 13, xs 14, xi 15])) [] = true := by decide +kernel
theorem plocal2_is (x : Mo) (h : Mo.Ok x) (hk : x.k = 2) (w : World) (M : Int) (hV : Vars M w) : Calls Tryz.prog 112 #[x.val] w fun e w' => e = .returned (.agg (ptL x.TL).toArray) /\ Below w.heap.size w w' := by
 obtain ⟨hs, g1, g2, g3, g4⟩ := ok_time h (by omega)
 obtain ⟨_, z0, z1⟩ := sec_small (sec_lt hs).2.2.1 (sec_lt hs).2.2.2
 have hcx : AllX Tryz.prog (envE (.int .i64 M :: loE x)) (Vars M) ploC2 := ⟨⟨rfl, fk, fun _ L w hV => pOf_any 0 (by decide) (by decide) w hV.pow⟩, ⟨rfl, fk, fun _ L w hV => psplit_is x.n x.s x.S x.secT (sec_is hs) w M hV⟩, trivial⟩
 have hr := tree_run (env := loE x) prun_local2 hcx rfl trivial rfl hV
 have eT : x.TL = x.secT + Dc.U * (3600 * x.h + 60 * x.i) := by
  unfold Mo.TL
  rw [if_neg (by omega), if_pos hk]; congr 1; congr 1; omega
 have ev : (plo2).evI (envE (.int .i64 M :: loE x)) = x.secT / Dc.U + (3600 * x.h + 60 * x.i) := by
  have e : (plo2).evI (envE (.int .i64 M :: loE x)) = IntKind.i64.wrap (x.secT / Dc.U + IntKind.i64.wrap (IntKind.i64.wrap (3600 * x.h) + IntKind.i64.wrap (60 * x.i))) := rfl
  rw [e, w64 (n := 3600 * x.h) (by omega) (by omega), w64 (n := 60 * x.i) (by omega) (by omega), w64 (n := 3600 * x.h + 60 * x.i) (by omega) (by omega), w64 (by omega) (by omega)]
  all_goals omega
 have hval : V.den L0 (envE (.int .i64 M :: loE x)) ((Tree.leaf (.agg [.xi .i64 plo2, xb 13, xs 14, xi 15])).at (envE (.int .i64 M :: loE x))) = .agg (ptL x.TL).toArray := by
  rw [eT, ptL_add, <- ev]
  rfl
 rw [hval] at hr
 obtain ⟨k, y, m, d, hh, i, n, s, S, z, o⟩ := x
 simp only at hk; subst hk
 exact hr
def plo3 : X := (.add .i64 (.add .i64 (.at 12) (.add .i64 (.mul .i64 (.int 3600) (.at 5)) (.mul .i64 (.int 60) (.at 6)))) (.mul .i64 (.int 86400) (.at 17)))
def ploC3 : List CallX := [⟨108, [it 0], [], ze⟩, ⟨130, [deV 7], [], ptV 12⟩, ⟨107, [xi 2], [], xi 16⟩, ⟨131, [xi 16, xi 3, xi 4], [], xi 17⟩]
theorem prun_local3 : chk (runTr Tryz.prog nG (fun _ => none) gd moT ploC3 100 112 [moK 3 1] h0) (.leaf (.agg [.xi .i64 plo3, xb 13, xs 14, xi 15])) [] = true := by decide +kernel
theorem plocal3_is (x : Mo) (h : Mo.Ok x) (hk : x.k = 3) (w : World) (M : Int) (hV : Vars M w) : Calls Tryz.prog 112 #[x.val] w fun e w' => e = .returned (.agg (ptL x.TL).toArray) /\ Below w.heap.size w w' := by
 have hd := ok_date h (by omega)
 have hc := cnt_bd hd
 have hdl := day_le hd
 have hdb := day_bd hd
 obtain ⟨q1, q2, q3, q4, q5, q6, q7⟩ := hd
 have hm : 1 <= x.m /\ x.m <= 12 := ⟨q4, q5⟩
 obtain ⟨hs, g1, g2, g3, g4⟩ := ok_time h (by omega)
 obtain ⟨_, z0, z1⟩ := sec_small (sec_lt hs).2.2.1 (sec_lt hs).2.2.2
 have hcx : AllX Tryz.prog (envE (.int .i64 M :: loE x)) (Vars M) ploC3 := ⟨⟨rfl, fk, fun _ L w hV => pOf_any 0 (by decide) (by decide) w hV.pow⟩, ⟨rfl, fk, fun _ L w hV => psplit_is x.n x.s x.S x.secT (sec_is hs) w M hV⟩, ⟨rfl, fk, fun _ L w hV => pcounted_is x.y (by omega) w M hV⟩, ⟨rfl, fk, fun _ L w hV => pdays_is (Mo.counted x.y) x.m x.d (by omega) (by omega) hm.1 hm.2 (by omega) (by omega) w M hV⟩, trivial⟩
 have hr := tree_run (env := loE x) prun_local3 hcx rfl trivial rfl hV
 have eT : x.TL = x.secT + Dc.U * (3600 * x.h + 60 * x.i + 86400 * x.day) := by
  unfold Mo.TL
  rw [if_neg (by omega), if_neg (by omega)]
 have ev : (plo3).evI (envE (.int .i64 M :: loE x)) = x.secT / Dc.U + (3600 * x.h + 60 * x.i + 86400 * x.day) := by
  have e : (plo3).evI (envE (.int .i64 M :: loE x)) = IntKind.i64.wrap (IntKind.i64.wrap (x.secT / Dc.U + IntKind.i64.wrap (IntKind.i64.wrap (3600 * x.h) + IntKind.i64.wrap (60 * x.i))) + IntKind.i64.wrap (86400 * x.day)) := rfl
  rw [e, w64 (n := 3600 * x.h) (by omega) (by omega), w64 (n := 60 * x.i) (by omega) (by omega), w64 (n := 3600 * x.h + 60 * x.i) (by omega) (by omega), w64 (n := x.secT / Dc.U + (3600 * x.h + 60 * x.i)) (by omega) (by omega), w64 (n := 86400 * x.day) (by omega) (by omega), w64 (by omega) (by omega)]
  all_goals omega
 have hval : V.den L0 (envE (.int .i64 M :: loE x)) ((Tree.leaf (.agg [.xi .i64 plo3, xb 13, xs 14, xi 15])).at (envE (.int .i64 M :: loE x))) = .agg (ptL x.TL).toArray := by
  rw [eT, ptL_add, <- ev]
  rfl
 rw [hval] at hr
 obtain ⟨k, y, m, d, hh, i, n, s, S, z, o⟩ := x
 simp only at hk; subst hk
 exact hr
theorem plocal_is (x : Mo) (h : Mo.Ok x) (w : World) (M : Int) (hV : Vars M w) : Calls Tryz.prog 112 #[x.val] w fun e w' => e = .returned (.agg (ptL x.TL).toArray) /\ Below w.heap.size w w' := by
 rcases h.1 with hk | hk | hk
 ·exact plocal1_is x h hk w M hV
 ·exact plocal2_is x h hk w M hV
 ·exact plocal3_is x h hk w M hV
def rlo1 : X := (.add .i64 (.int 0) (.mul .i64 (.int 86400) (.at 17)))
def rloC1 : List CallX := [⟨78, [it 0], [], ze⟩, ⟨76, [xi 2], [], xi 16⟩, ⟨133, [xi 16, xi 3, xi 4], [], xi 17⟩]
theorem rrun_local1 : chk (runTr Tryz.prog nG (fun _ => none) gd moT rloC1 100 114 [moK 1 1] h0) (.leaf (.agg [.xi .i64 rlo1, .bool false, .str [48], it 0])) [] = true := by decide +kernel
theorem rlocal1_is (x : Mo) (h : Mo.Ok x) (hk : x.k = 1) (w : World) (M : Int) (hV : Vars M w) : Calls Tryz.prog 114 #[x.val] w fun e w' => e = .returned (.agg (ptL x.TL).toArray) /\ Below w.heap.size w w' := by
 have hd := ok_date h (by omega)
 have hc := cnt_bd hd
 have hdl := day_le hd
 have hdb := day_bd hd
 obtain ⟨q1, q2, q3, q4, q5, q6, q7⟩ := hd
 have hm : 1 <= x.m /\ x.m <= 12 := ⟨q4, q5⟩
 obtain ⟨g1, g2, _⟩ := ok_notime h hk
 have hcx : AllX Tryz.prog (envE (.int .i64 M :: loE x)) (Vars M) rloC1 := ⟨⟨rfl, fk, fun _ L w hV => rsmall_is 0 (by decide) (by decide) w M hV⟩, ⟨rfl, fk, fun _ L w hV => rcounted_is x.y (by omega) w M hV⟩, ⟨rfl, fk, fun _ L w hV => rdays_is (Mo.counted x.y) x.m x.d x.day rfl (by omega) (by omega) hm.1 hm.2 (by omega) (by omega) w M hV⟩, trivial⟩
 have hr := tree_run (env := loE x) rrun_local1 hcx rfl trivial rfl hV
 have eT : x.TL = 0 + Dc.U * (86400 * x.day) := by
  unfold Mo.TL
  rw [if_pos hk, if_neg (by omega), g1, g2]; congr 1; congr 1; omega
 have ev : (rlo1).evI (envE (.int .i64 M :: loE x)) = 86400 * x.day := by
  have e : (rlo1).evI (envE (.int .i64 M :: loE x)) = IntKind.i64.wrap (0 + IntKind.i64.wrap (86400 * x.day)) := rfl
  rw [e, w64 (n := 86400 * x.day) (by omega) (by omega), w64 (by omega) (by omega)]
  all_goals omega
 have hval : V.den L0 (envE (.int .i64 M :: loE x)) ((Tree.leaf (.agg [.xi .i64 rlo1, .bool false, .str [48], it 0])).at (envE (.int .i64 M :: loE x))) = .agg (ptL x.TL).toArray := by
  rw [eT, ptL_zero, <- ev]
  rfl
 rw [hval] at hr
 obtain ⟨k, y, m, d, hh, i, n, s, S, z, o⟩ := x
 simp only at hk; subst hk
 exact hr
def rlo2 : X := (.add .i64 (.add .i64 (.at 12) (.mul .i64 (.at 5) (.int 3600))) (.mul .i64 (.at 6) (.int 60)))
def rloC2 : List CallX := [⟨78, [it 0], [], ze⟩, ⟨132, [deV 7], [], ptV 12⟩]
theorem rrun_local2 : chk (runTr Tryz.prog nG (fun _ => none) gd moT rloC2 100 114 [moK 2 1] h0) (.leaf (.agg [.xi .i64 rlo2, xb 13, xs 14, xi 15])) [] = true := by decide +kernel
theorem rlocal2_is (x : Mo) (h : Mo.Ok x) (hk : x.k = 2) (w : World) (M : Int) (hV : Vars M w) : Calls Tryz.prog 114 #[x.val] w fun e w' => e = .returned (.agg (ptL x.TL).toArray) /\ Below w.heap.size w w' := by
 obtain ⟨hs, g1, g2, g3, g4⟩ := ok_time h (by omega)
 obtain ⟨_, z0, z1⟩ := sec_small (sec_lt hs).2.2.1 (sec_lt hs).2.2.2
 have hcx : AllX Tryz.prog (envE (.int .i64 M :: loE x)) (Vars M) rloC2 := ⟨⟨rfl, fk, fun _ L w hV => rsmall_is 0 (by decide) (by decide) w M hV⟩, ⟨rfl, fk, fun _ L w hV => rsplit_is x.n x.s x.S x.secT (sec_is hs) w M hV⟩, trivial⟩
 have hr := tree_run (env := loE x) rrun_local2 hcx rfl trivial rfl hV
 have eT : x.TL = x.secT + Dc.U * (3600 * x.h + 60 * x.i) := by
  unfold Mo.TL
  rw [if_neg (by omega), if_pos hk]; congr 1; congr 1; omega
 have ev : (rlo2).evI (envE (.int .i64 M :: loE x)) = x.secT / Dc.U + (3600 * x.h + 60 * x.i) := by
  have e : (rlo2).evI (envE (.int .i64 M :: loE x)) = IntKind.i64.wrap (IntKind.i64.wrap (x.secT / Dc.U + IntKind.i64.wrap (x.h * 3600)) + IntKind.i64.wrap (x.i * 60)) := rfl
  rw [e, w64 (n := x.h * 3600) (by omega) (by omega), w64 (n := x.secT / Dc.U + x.h * 3600) (by omega) (by omega), w64 (n := x.i * 60) (by omega) (by omega), w64 (by omega) (by omega)]
  all_goals omega
 have hval : V.den L0 (envE (.int .i64 M :: loE x)) ((Tree.leaf (.agg [.xi .i64 rlo2, xb 13, xs 14, xi 15])).at (envE (.int .i64 M :: loE x))) = .agg (ptL x.TL).toArray := by
  rw [eT, ptL_add, <- ev]
  rfl
 rw [hval] at hr
 obtain ⟨k, y, m, d, hh, i, n, s, S, z, o⟩ := x
 simp only at hk; subst hk
 exact hr
def rlo3 : X := (.add .i64 (.add .i64 (.add .i64 (.at 12) (.mul .i64 (.at 5) (.int 3600))) (.mul .i64 (.at 6) (.int 60))) (.mul .i64 (.int 86400) (.at 17)))
def rloC3 : List CallX := [⟨78, [it 0], [], ze⟩, ⟨132, [deV 7], [], ptV 12⟩, ⟨76, [xi 2], [], xi 16⟩, ⟨133, [xi 16, xi 3, xi 4], [], xi 17⟩]
theorem rrun_local3 : chk (runTr Tryz.prog nG (fun _ => none) gd moT rloC3 100 114 [moK 3 1] h0) (.leaf (.agg [.xi .i64 rlo3, xb 13, xs 14, xi 15])) [] = true := by decide +kernel
theorem rlocal3_is (x : Mo) (h : Mo.Ok x) (hk : x.k = 3) (w : World) (M : Int) (hV : Vars M w) : Calls Tryz.prog 114 #[x.val] w fun e w' => e = .returned (.agg (ptL x.TL).toArray) /\ Below w.heap.size w w' := by
 have hd := ok_date h (by omega)
 have hc := cnt_bd hd
 have hdl := day_le hd
 have hdb := day_bd hd
 obtain ⟨q1, q2, q3, q4, q5, q6, q7⟩ := hd
 have hm : 1 <= x.m /\ x.m <= 12 := ⟨q4, q5⟩
 obtain ⟨hs, g1, g2, g3, g4⟩ := ok_time h (by omega)
 obtain ⟨_, z0, z1⟩ := sec_small (sec_lt hs).2.2.1 (sec_lt hs).2.2.2
 have hcx : AllX Tryz.prog (envE (.int .i64 M :: loE x)) (Vars M) rloC3 := ⟨⟨rfl, fk, fun _ L w hV => rsmall_is 0 (by decide) (by decide) w M hV⟩, ⟨rfl, fk, fun _ L w hV => rsplit_is x.n x.s x.S x.secT (sec_is hs) w M hV⟩, ⟨rfl, fk, fun _ L w hV => rcounted_is x.y (by omega) w M hV⟩, ⟨rfl, fk, fun _ L w hV => rdays_is (Mo.counted x.y) x.m x.d x.day rfl (by omega) (by omega) hm.1 hm.2 (by omega) (by omega) w M hV⟩, trivial⟩
 have hr := tree_run (env := loE x) rrun_local3 hcx rfl trivial rfl hV
 have eT : x.TL = x.secT + Dc.U * (3600 * x.h + 60 * x.i + 86400 * x.day) := by
  unfold Mo.TL
  rw [if_neg (by omega), if_neg (by omega)]
 have ev : (rlo3).evI (envE (.int .i64 M :: loE x)) = x.secT / Dc.U + (3600 * x.h + 60 * x.i + 86400 * x.day) := by
  have e : (rlo3).evI (envE (.int .i64 M :: loE x)) = IntKind.i64.wrap (IntKind.i64.wrap (IntKind.i64.wrap (x.secT / Dc.U + IntKind.i64.wrap (x.h * 3600)) + IntKind.i64.wrap (x.i * 60)) + IntKind.i64.wrap (86400 * x.day)) := rfl
  rw [e, w64 (n := x.h * 3600) (by omega) (by omega), w64 (n := x.secT / Dc.U + x.h * 3600) (by omega) (by omega), w64 (n := x.i * 60) (by omega) (by omega), w64 (n := x.secT / Dc.U + x.h * 3600 + x.i * 60) (by omega) (by omega), w64 (n := 86400 * x.day) (by omega) (by omega), w64 (by omega) (by omega)]
  all_goals omega
 have hval : V.den L0 (envE (.int .i64 M :: loE x)) ((Tree.leaf (.agg [.xi .i64 rlo3, xb 13, xs 14, xi 15])).at (envE (.int .i64 M :: loE x))) = .agg (ptL x.TL).toArray := by
  rw [eT, ptL_add, <- ev]
  rfl
 rw [hval] at hr
 obtain ⟨k, y, m, d, hh, i, n, s, S, z, o⟩ := x
 simp only at hk; subst hk
 exact hr
theorem rlocal_is (x : Mo) (h : Mo.Ok x) (w : World) (M : Int) (hV : Vars M w) : Calls Tryz.prog 114 #[x.val] w fun e w' => e = .returned (.agg (ptL x.TL).toArray) /\ Below w.heap.size w w' := by
 rcases h.1 with hk | hk | hk
 ·exact rlocal1_is x h hk w M hV
 ·exact rlocal2_is x h hk w M hV
 ·exact rlocal3_is x h hk w M hV
end Go.Proofs.YthoojcdjjecogaaGreatDoor
namespace Go.Proofs.YthoojcdjjecogaaGreatDoor
open Go Go.RowKit Go.Ex

theorem TL_small {x : Mo} (h : Mo.Ok x) : -400000000000 <= x.TL / Dc.U /\ x.TL / Dc.U <= 400000000000 := by
 have hU := Dc.U_pos
 unfold Mo.TL
 rw [Int.add_mul_ediv_left _ _ (by omega)]
 have hb : 0 <= (if x.k = 1 then 0 else x.secT) / Dc.U /\ (if x.k = 1 then 0 else x.secT) / Dc.U <= 60 /\ 0 <= x.h /\ x.h <= 23 /\ 0 <= x.i /\ x.i <= 59 := by
  by_cases hk : x.k = 1
  ·obtain ⟨g1, g2, _⟩ := ok_notime h hk
   rw [if_pos hk, g1, g2, Int.zero_ediv]
   decide
  ·obtain ⟨hs, g1, g2, g3, g4⟩ := ok_time h hk
   obtain ⟨_, z0, z1⟩ := sec_small (sec_lt hs).2.2.1 (sec_lt hs).2.2.2
   rw [if_neg hk]
   omega
 have hd : -400000000000 + 100000 <= (if x.k = 2 then 0 else 86400 * x.day) /\ (if x.k = 2 then 0 else 86400 * x.day) <= 400000000000 - 100000 := by
  by_cases hk : x.k = 2
  ·rw [if_pos hk]; decide
  ·rw [if_neg hk]
   have := day_bd (ok_date h hk)
   omega
 omega
theorem TA_small {x : Mo} (h : Mo.Ok x) : -500000000000 <= x.TA / Dc.U /\ x.TA / Dc.U <= 500000000000 := by
 have hU := Dc.U_pos
 have h1 := TL_small h
 have h2 := h.2.1
 have h3 := h.2.2.1
 unfold Mo.TA
 rw [show x.TL - Dc.U * (60 * x.o) = x.TL + Dc.U * (-(60 * x.o)) by rw [Int.mul_neg]; omega, Int.add_mul_ediv_left _ _ (by omega)]
 omega
theorem pt_more {E : Nat -> Value} {L : Ex.Loc} {T W : Int} {e : X} {b : Nat} (he : e.evI E = T / Dc.U + W) (h1 : E (b + 1) = .bool (Dc.frac (T % Dc.U)).1) (h2 : E (b + 2) = .string (str (Dc.digs (Dc.frac (T % Dc.U)).2.1))) (h3 : E (b + 3) = .int .i64 ((Dc.frac (T % Dc.U)).2.2 : Int)) :
  (V.agg [.xi .i64 e, xb (b + 1), xs (b + 2), xi (b + 3)]).den L E = .agg (ptL (T + Dc.U * W)).toArray := by
 rw [ptL_add]
 simp only [V.den, V.dens, xb, xs, xi, X.evB, X.evI, X.evS, h1, h2, h3, he]
 rfl
def atP : X := .sub .i64 (.at 12) (.mul .i64 (.int 60) (.at 11))
def atR : X := .sub .i64 (.at 12) (.mul .i64 (.at 11) (.int 60))
theorem prun_at : chk (runTr Tryz.prog nG (fun _ => none) gd moT [⟨112, [moV 1], [], ptV 12⟩] 100 85 [moV 1] h0) (.leaf (.agg [.xi .i64 atP, xb 13, xs 14, xi 15])) [] = true := by decide +kernel
theorem rrun_at : chk (runTr Tryz.prog nG (fun _ => none) gd moT [⟨114, [moV 1], [], ptV 12⟩] 100 89 [moV 1] h0) (.leaf (.agg [.xi .i64 atR, xb 13, xs 14, xi 15])) [] = true := by decide +kernel
def atE (x : Mo) : List Value := x.list ++ ptL x.TL
theorem at_den {x : Mo} (h : Mo.Ok x) (M : Int) (L : Ex.Loc) : (V.agg [.xi .i64 atP, xb 13, xs 14, xi 15]).den L (envE (.int .i64 M :: atE x)) = .agg (ptL x.TA).toArray /\ (V.agg [.xi .i64 atR, xb 13, xs 14, xi 15]).den L (envE (.int .i64 M :: atE x)) = .agg (ptL x.TA).toArray := by
 have h1 := TL_small h
 have h2 := h.2.1
 have h3 := h.2.2.1
 have e : x.TA = x.TL + Dc.U * (-(60 * x.o)) := by unfold Mo.TA; rw [Int.mul_neg]; omega
 rw [e]
 constructor
 ·refine pt_more (b := 12) ?_ rfl rfl rfl
  have ev : atP.evI (envE (.int .i64 M :: atE x)) = IntKind.i64.wrap (x.TL / Dc.U - IntKind.i64.wrap (60 * x.o)) := rfl
  rw [ev, w64 (n := 60 * x.o) (by omega) (by omega), w64 (by omega) (by omega)]
  omega
 ·refine pt_more (b := 12) ?_ rfl rfl rfl
  have ev : atR.evI (envE (.int .i64 M :: atE x)) = IntKind.i64.wrap (x.TL / Dc.U - IntKind.i64.wrap (x.o * 60)) := rfl
  rw [ev, w64 (n := x.o * 60) (by omega) (by omega), w64 (by omega) (by omega)]
  omega
theorem pat_is (x : Mo) (h : Mo.Ok x) (w : World) (M : Int) (hV : Vars M w) : Calls Tryz.prog 85 #[x.val] w fun e w' => e = .returned (.agg (ptL x.TA).toArray) /\ Below w.heap.size w w' := by
 have hc : AllX Tryz.prog (envE (.int .i64 M :: atE x)) (Vars M) [⟨112, [moV 1], [], ptV 12⟩] := ⟨⟨rfl, fk, fun _ L w hV => plocal_is x h w M hV⟩, trivial⟩
 have hr := tree_run (env := atE x) prun_at hc rfl trivial rfl hV
 simp only [Tree.at] at hr
 rw [(at_den h M L0).1] at hr
 exact hr
theorem rat_is (x : Mo) (h : Mo.Ok x) (w : World) (M : Int) (hV : Vars M w) : Calls Tryz.prog 89 #[x.val] w fun e w' => e = .returned (.agg (ptL x.TA).toArray) /\ Below w.heap.size w w' := by
 have hc : AllX Tryz.prog (envE (.int .i64 M :: atE x)) (Vars M) [⟨114, [moV 1], [], ptV 12⟩] := ⟨⟨rfl, fk, fun _ L w hV => rlocal_is x h w M hV⟩, trivial⟩
 have hr := tree_run (env := atE x) rrun_at hc rfl trivial rfl hV
 simp only [Tree.at] at hr
 rw [(at_den h M L0).2] at hr
 exact hr

def cmpM (a b : Mo) : Int × Bool × Int :=
 if Mo.okB a = true /\ Mo.okB b = true /\ a.k = b.k then
  (if a.z = b.z then (Dc.ordI a.TA b.TA, true, 0) else if a.TA < b.TA - Dc.U * 50400 then (-1, true, 0) else if b.TA + Dc.U * 50400 < a.TA then (1, true, 0) else (0, false, 0))
 else (0, false, 2)
def equalM (a b : Mo) : Bool × Int := if Mo.okB a = true /\ Mo.okB b = true /\ a.k = b.k then (decide (a.z = b.z /\ a.TA = b.TA), 0) else (false, 2)
theorem ord_cases (a b : Int) : (a < b /\ Dc.ordI a b = -1) \/ (a = b /\ Dc.ordI a b = 0) \/ (b < a /\ Dc.ordI a b = 1) := by
 unfold Dc.ordI
 rcases Int.lt_trichotomy a b with h | h | h
 ·rw [if_pos h]; exact .inl ⟨h, rfl⟩
 ·rw [if_neg (by omega), if_neg (by omega)]; exact .inr (.inl ⟨h, rfl⟩)
 ·rw [if_neg (by omega), if_pos h]; exact .inr (.inr ⟨h, rfl⟩)
theorem okB_Ok {x : Mo} (h : Mo.okB x = true) : Mo.Ok x := of_decide_eq_true h
def ptrCmp : Tree := (.node (.at 23) (.node (.at 24) (.node (.eq (.at 1) (.at 12)) (.node (.beq (.at 10) (.at 21)) (.leaf (.tup [(.xi .i64 (.at 33)), (.bool true), (.int .i64 0)])) (.node (.eq (.at 33) (.int 0)) (.leaf (.tup [(.int .i64 0), (.bool false), (.int .i64 0)])) (.node (.eq (.at 34) (.at 33)) (.leaf (.tup [(.xi .i64 (.at 33)), (.bool true), (.int .i64 0)])) (.leaf (.tup [(.int .i64 0), (.bool false), (.int .i64 0)]))))) (.leaf (.tup [(.int .i64 0), (.bool false), (.int .i64 2)]))) (.leaf (.tup [(.int .i64 0), (.bool false), (.int .i64 2)]))) (.leaf (.tup [(.int .i64 0), (.bool false), (.int .i64 2)])))
def ptrEqual : Tree := (.node (.at 23) (.node (.at 24) (.node (.eq (.at 1) (.at 12)) (.node (.beq (.at 10) (.at 21)) (.node (.eq (.at 33) (.int 0)) (.leaf (.tup [(.bool true), (.int .i64 0)])) (.leaf (.tup [(.bool false), (.int .i64 0)]))) (.leaf (.tup [(.bool false), (.int .i64 0)]))) (.leaf (.tup [(.bool false), (.int .i64 2)]))) (.leaf (.tup [(.bool false), (.int .i64 2)]))) (.leaf (.tup [(.bool false), (.int .i64 2)])))
def pcmC : List CallX := [⟨72, [moV 1], [], xb 23⟩, ⟨72, [moV 12], [], xb 24⟩, ⟨85, [moV 1], [(.at 23, true)], ptV 25⟩, ⟨85, [moV 12], [(.at 24, true)], ptV 29⟩, ⟨86, [ptV 25, ptV 29], [], xi 33⟩]
def pcmD : List CallX := [⟨86, [ptV 25, .agg [.xi .i64 (.add .i64 (.at 29) (.mul .i64 (.int 50400) (.at 33))), xb 30, xs 31, xi 32]], [(.at 24, true)], xi 34⟩]
def pcmE (a b : Mo) : List Value := a.list ++ b.list ++ [.bool (Mo.okB a), .bool (Mo.okB b)] ++ ptL a.TA ++ ptL b.TA ++ [.int .i64 (Dc.ordI a.TA b.TA)] ++ [.int .i64 (Dc.ordI a.TA (b.TA + Dc.U * (50400 * Dc.ordI a.TA b.TA)))]
theorem prun_cmpm : chk (runTr Tryz.prog nG (fun _ => none) gd moT (pcmC ++ pcmD) 100 44 [moV 1, moV 12] h0) ptrCmp [] = true := by decide +kernel
theorem prun_equalm : chk (runTr Tryz.prog nG (fun _ => none) gd moT pcmC 100 79 [moV 1, moV 12] h0) ptrEqual [] = true := by decide +kernel
theorem pcm_ok (a b : Mo) (ha : a.s.size <= 1000000) (hb : b.s.size <= 1000000) (M : Int) : AllX Tryz.prog (envE (.int .i64 M :: pcmE a b)) (Vars M) pcmC := by
 have va : ∀ (x : Mo) (bb r : Nat) (hx : x.s.size <= 1000000) (h1 : ∀ L, (moV bb).den L (envE (.int .i64 M :: pcmE a b)) = x.val) (h2 : ∀ L, (xb r).den L (envE (.int .i64 M :: pcmE a b)) = .bool (Mo.okB x)), CallX.Ok Tryz.prog (envE (.int .i64 M :: pcmE a b)) (Vars M) ⟨72, [moV bb], [], xb r⟩ := fun x bb r hx h1 h2 => by
  refine ⟨rfl, fk, fun _ L w hV => ?_⟩
  have e1 : V.dens L (envE (.int .i64 M :: pcmE a b)) [moV bb] = [x.val] := by simp only [V.dens, h1]
  show Calls _ _ (V.dens L (envE (.int .i64 M :: pcmE a b)) [moV bb]).toArray w fun q w' => q = .returned ((xb r).den L (envE (.int .i64 M :: pcmE a b))) /\ Below w.heap.size w w'
  rw [e1, h2]
  exact pvalid_is x hx w M hV
 refine ⟨va a 1 23 ha (fun _ => rfl) (fun _ => rfl), va b 12 24 hb (fun _ => rfl) (fun _ => rfl), ⟨rfl, fk, fun hp L w hV => pat_is a (okB_Ok (show Mo.okB a = true from hp.1)) w M hV⟩, ⟨rfl, fk, fun hp L w hV => pat_is b (okB_Ok (show Mo.okB b = true from hp.1)) w M hV⟩, ⟨rfl, fk, fun _ L w hV => pord_is a.TA b.TA w M hV⟩, trivial⟩
theorem pcd_ok (a b : Mo) (M : Int) : AllX Tryz.prog (envE (.int .i64 M :: pcmE a b)) (Vars M) pcmD := by
 refine ⟨⟨rfl, fk, fun hp L w hV => ?_⟩, trivial⟩
 ·have hb := TA_small (okB_Ok (show Mo.okB b = true from hp.1))
  have ho := ord_cases a.TA b.TA
  have hd : (.agg [.xi .i64 (.add .i64 (.at 29) (.mul .i64 (.int 50400) (.at 33))), xb 30, xs 31, xi 32] : V).den L (envE (.int .i64 M :: pcmE a b)) = .agg (ptL (b.TA + Dc.U * (50400 * Dc.ordI a.TA b.TA))).toArray := by
   refine pt_more (b := 29) ?_ rfl rfl rfl
   have ev : (.add .i64 (.at 29) (.mul .i64 (.int 50400) (.at 33)) : X).evI (envE (.int .i64 M :: pcmE a b)) = IntKind.i64.wrap (b.TA / Dc.U + IntKind.i64.wrap (50400 * Dc.ordI a.TA b.TA)) := rfl
   rw [ev, w64 (n := 50400 * Dc.ordI a.TA b.TA) (by omega) (by omega), w64 (by omega) (by omega)]
   all_goals omega
  have e1 : V.dens L (envE (.int .i64 M :: pcmE a b)) [ptV 25, .agg [.xi .i64 (.add .i64 (.at 29) (.mul .i64 (.int 50400) (.at 33))), xb 30, xs 31, xi 32]] = [.agg (ptL a.TA).toArray, .agg (ptL (b.TA + Dc.U * (50400 * Dc.ordI a.TA b.TA))).toArray] := by
   simp only [V.dens, hd]
   rfl
  have hr := pord_is a.TA (b.TA + Dc.U * (50400 * Dc.ordI a.TA b.TA)) w M hV
  rw [e1]
  exact hr
theorem pcmpm_at (a b : Mo) (M : Int) : (ptrCmp.at (envE (.int .i64 M :: pcmE a b))).den L0 (envE (.int .i64 M :: pcmE a b)) = .tuple #[.int .i64 (cmpM a b).1, .bool (cmpM a b).2.1, .int .i64 (cmpM a b).2.2] := by
 have hU := Dc.U_pos
 have e : ptrCmp.at (envE (.int .i64 M :: pcmE a b)) = bif Mo.okB a then bif Mo.okB b then bif decide (a.k = b.k) then bif (a.z == b.z) then .tup [xi 33, .bool true, it 0] else bif decide (Dc.ordI a.TA b.TA = 0) then .tup [it 0, .bool false, it 0] else bif decide (Dc.ordI a.TA (b.TA + Dc.U * (50400 * Dc.ordI a.TA b.TA)) = Dc.ordI a.TA b.TA) then .tup [xi 33, .bool true, it 0] else .tup [it 0, .bool false, it 0] else .tup [it 0, .bool false, it 2] else .tup [it 0, .bool false, it 2] else .tup [it 0, .bool false, it 2] := rfl
 rw [e]
 simp only [cmpM]
 by_cases hc : Mo.okB a = true /\ Mo.okB b = true /\ a.k = b.k
 ·rw [if_pos hc]
  obtain ⟨h1, h2, h3⟩ := hc
  rw [h1, h2, decide_eq_true h3]
  simp only [cond_true]
  by_cases hz : a.z = b.z
  ·rw [if_pos hz, show (a.z == b.z) = true by rw [hz]; simp]
   rfl
  ·rw [show (a.z == b.z) = false by simpa using hz]
   simp only [cond_false]
   rcases ord_cases a.TA b.TA with ⟨h1, h2⟩ | ⟨h1, h2⟩ | ⟨h1, h2⟩
   ·rw [h2, decide_eq_false (by decide), show Dc.U * (50400 * -1) = -(Dc.U * 50400) by omega]
    rw [if_neg hz]
    by_cases hl : a.TA < b.TA - Dc.U * 50400
    ·have e : Dc.ordI a.TA (b.TA + -(Dc.U * 50400)) = -1 := by unfold Dc.ordI; rw [if_pos (by omega)]
     rw [if_pos hl, e, decide_eq_true rfl]
     show Value.tuple #[.int .i64 (Dc.ordI a.TA b.TA), .bool true, .int .i64 0] = _
     rw [h2]
    ·have e : ¬ Dc.ordI a.TA (b.TA + -(Dc.U * 50400)) = -1 := by unfold Dc.ordI; rw [if_neg (by omega)]; split <;> decide
     rw [if_neg hl, if_neg (by omega), decide_eq_false e]
     rfl
   ·rw [h2, decide_eq_true rfl, if_neg hz, if_neg (by omega), if_neg (by omega)]
    rfl
   ·rw [h2, decide_eq_false (by decide), show Dc.U * (50400 * 1) = Dc.U * 50400 by omega]
    rw [if_neg hz, if_neg (by omega)]
    by_cases hl : b.TA + Dc.U * 50400 < a.TA
    ·have e : Dc.ordI a.TA (b.TA + Dc.U * 50400) = 1 := by unfold Dc.ordI; rw [if_neg (by omega), if_pos hl]
     rw [if_pos hl, e, decide_eq_true rfl]
     show Value.tuple #[.int .i64 (Dc.ordI a.TA b.TA), .bool true, .int .i64 0] = _
     rw [h2]
    ·have e : ¬ Dc.ordI a.TA (b.TA + Dc.U * 50400) = 1 := by
      unfold Dc.ordI
      split <;> first | decide | (rw [if_neg (by omega)]; decide)
     rw [if_neg hl, decide_eq_false e]
     rfl
 ·rw [if_neg hc]
  cases h1 : Mo.okB a with
  | false => rfl
  | true =>
   cases h2 : Mo.okB b with
   | false => rfl
   | true =>
    rw [decide_eq_false (fun h3 => hc ⟨h1, h2, h3⟩)]
    rfl
theorem pcmpm_is (a b : Mo) (ha : a.s.size <= 1000000) (hb : b.s.size <= 1000000) (o : Int) (t : Bool) (k : Int) (hr : cmpM a b = (o, t, k)) (w : World) (M : Int) (hV : Vars M w) : Calls Tryz.prog 44 #[a.val, b.val] w fun e w' => e = .returned (.tuple #[.int .i64 o, .bool t, .int .i64 k]) /\ Below w.heap.size w w' := by
 have h := tree_run (env := pcmE a b) prun_cmpm (AllX_append (pcm_ok a b ha hb M) (pcd_ok a b M)) rfl trivial rfl hV
 rw [pcmpm_at a b M, hr] at h
 exact h
theorem pequal_at (a b : Mo) (M : Int) : (ptrEqual.at (envE (.int .i64 M :: pcmE a b))).den L0 (envE (.int .i64 M :: pcmE a b)) = .tuple #[.bool (equalM a b).1, .int .i64 (equalM a b).2] := by
 have e : ptrEqual.at (envE (.int .i64 M :: pcmE a b)) = bif Mo.okB a then bif Mo.okB b then bif decide (a.k = b.k) then bif (a.z == b.z) then bif decide (Dc.ordI a.TA b.TA = 0) then .tup [.bool true, it 0] else .tup [.bool false, it 0] else .tup [.bool false, it 0] else .tup [.bool false, it 2] else .tup [.bool false, it 2] else .tup [.bool false, it 2] := rfl
 rw [e]
 simp only [equalM]
 by_cases hc : Mo.okB a = true /\ Mo.okB b = true /\ a.k = b.k
 ·rw [if_pos hc]
  obtain ⟨h1, h2, h3⟩ := hc
  rw [h1, h2, decide_eq_true h3]
  simp only [cond_true]
  by_cases hz : a.z = b.z
  ·rw [show (a.z == b.z) = true by rw [hz]; simp]
   by_cases ht : a.TA = b.TA
   ·rw [decide_eq_true (show a.z = b.z /\ a.TA = b.TA from ⟨hz, ht⟩), decide_eq_true (by rcases ord_cases a.TA b.TA with ⟨h, _⟩ | ⟨_, h⟩ | ⟨h, _⟩ <;> omega)]
    rfl
   ·rw [decide_eq_false (fun q : a.z = b.z /\ a.TA = b.TA => ht q.2), decide_eq_false (by rcases ord_cases a.TA b.TA with ⟨_, h⟩ | ⟨h, _⟩ | ⟨_, h⟩ <;> omega)]
    rfl
  ·rw [show (a.z == b.z) = false by simpa using hz, decide_eq_false (fun q : a.z = b.z /\ a.TA = b.TA => hz q.1)]
   rfl
 ·rw [if_neg hc]
  cases h1 : Mo.okB a with
  | false => rfl
  | true =>
   cases h2 : Mo.okB b with
   | false => rfl
   | true =>
    rw [decide_eq_false (fun h3 => hc ⟨h1, h2, h3⟩)]
    rfl
theorem pequalm_is (a b : Mo) (ha : a.s.size <= 1000000) (hb : b.s.size <= 1000000) (t : Bool) (k : Int) (hr : equalM a b = (t, k)) (w : World) (M : Int) (hV : Vars M w) : Calls Tryz.prog 79 #[a.val, b.val] w fun e w' => e = .returned (.tuple #[.bool t, .int .i64 k]) /\ Below w.heap.size w w' := by
 have h := tree_run (env := pcmE a b) prun_equalm (pcm_ok a b ha hb M) rfl trivial rfl hV
 rw [pequal_at a b M, hr] at h
 exact h
def rtrCmp : Tree := (.node (.eq (.at 23) (.int 0)) (.node (.eq (.at 24) (.int 0)) (.node (.eq (.at 1) (.at 12)) (.node (.beq (.at 10) (.at 21)) (.leaf (.tup [(.xi .i64 (.at 33)), (.bool true), (.int .i64 0)])) (.node (.lt (.at 34) (.int 0)) (.leaf (.tup [(.int .i64 (-1)), (.bool true), (.int .i64 0)])) (.node (.lt (.int 0) (.at 35)) (.leaf (.tup [(.int .i64 1), (.bool true), (.int .i64 0)])) (.leaf (.tup [(.int .i64 0), (.bool false), (.int .i64 0)]))))) (.leaf (.tup [(.int .i64 0), (.bool false), (.int .i64 2)]))) (.leaf (.tup [(.int .i64 0), (.bool false), (.int .i64 2)]))) (.leaf (.tup [(.int .i64 0), (.bool false), (.int .i64 2)])))
def rtrEqual : Tree := (.node (.eq (.at 23) (.int 0)) (.node (.eq (.at 24) (.int 0)) (.node (.eq (.at 1) (.at 12)) (.node (.beq (.at 10) (.at 21)) (.node (.eq (.at 33) (.int 0)) (.leaf (.tup [(.bool true), (.int .i64 0)])) (.leaf (.tup [(.bool false), (.int .i64 0)]))) (.leaf (.tup [(.bool false), (.int .i64 0)]))) (.leaf (.tup [(.bool false), (.int .i64 2)]))) (.leaf (.tup [(.bool false), (.int .i64 2)]))) (.leaf (.tup [(.bool false), (.int .i64 2)])))
def rcmC : List CallX := [⟨40, [moV 1], [], xi 23⟩, ⟨40, [moV 12], [], xi 24⟩, ⟨89, [moV 1], [(.eq (.at 23) (.int 0), true)], ptV 25⟩, ⟨89, [moV 12], [(.eq (.at 24) (.int 0), true)], ptV 29⟩, ⟨90, [ptV 25, ptV 29], [], xi 33⟩]
def rcmD : List CallX := [⟨90, [ptV 25, .agg [.xi .i64 (.sub .i64 (.at 29) (.int 50400)), xb 30, xs 31, xi 32]], [(.eq (.at 24) (.int 0), true)], xi 34⟩, ⟨90, [ptV 25, .agg [.xi .i64 (.add .i64 (.at 29) (.int 50400)), xb 30, xs 31, xi 32]], [(.eq (.at 24) (.int 0), true)], xi 35⟩]
def rcmE (a b : Mo) : List Value := a.list ++ b.list ++ [.int .i64 (bif Mo.okB a then 0 else 2), .int .i64 (bif Mo.okB b then 0 else 2)] ++ ptL a.TA ++ ptL b.TA ++ [.int .i64 (Dc.ordI a.TA b.TA)] ++ [.int .i64 (Dc.ordI a.TA (b.TA + Dc.U * (-50400))), .int .i64 (Dc.ordI a.TA (b.TA + Dc.U * 50400))]
theorem rrun_cmpm : chk (runTr Tryz.prog nG (fun _ => none) gd moT (rcmC ++ rcmD) 100 46 [moV 1, moV 12] h0) rtrCmp [] = true := by decide +kernel
theorem rrun_equalm : chk (runTr Tryz.prog nG (fun _ => none) gd moT rcmC 100 81 [moV 1, moV 12] h0) rtrEqual [] = true := by decide +kernel
theorem rcm_ok (a b : Mo) (ha : a.s.size <= 1000000) (hb : b.s.size <= 1000000) (M : Int) : AllX Tryz.prog (envE (.int .i64 M :: rcmE a b)) (Vars M) rcmC := by
 have va : ∀ (x : Mo) (bb r : Nat) (hx : x.s.size <= 1000000) (h1 : ∀ L, (moV bb).den L (envE (.int .i64 M :: rcmE a b)) = x.val) (h2 : ∀ L, (xi r).den L (envE (.int .i64 M :: rcmE a b)) = .int .i64 (bif Mo.okB x then 0 else 2)), CallX.Ok Tryz.prog (envE (.int .i64 M :: rcmE a b)) (Vars M) ⟨40, [moV bb], [], xi r⟩ := fun x bb r hx h1 h2 => by
  refine ⟨rfl, fk, fun _ L w hV => ?_⟩
  have e1 : V.dens L (envE (.int .i64 M :: rcmE a b)) [moV bb] = [x.val] := by simp only [V.dens, h1]
  show Calls _ _ (V.dens L (envE (.int .i64 M :: rcmE a b)) [moV bb]).toArray w fun q w' => q = .returned ((xi r).den L (envE (.int .i64 M :: rcmE a b))) /\ Below w.heap.size w w'
  rw [e1, h2]
  exact rcheckm_is x hx w M hV
 refine ⟨va a 1 23 ha (fun _ => rfl) (fun _ => rfl), va b 12 24 hb (fun _ => rfl) (fun _ => rfl), ⟨rfl, fk, fun hp L w hV => rat_is a (okB_Ok (by have h : decide ((bif Mo.okB a then (0 : Int) else 2) = 0) = true := hp.1; cases hq : Mo.okB a with | true => rfl | false => rw [hq] at h; cases h)) w M hV⟩, ⟨rfl, fk, fun hp L w hV => rat_is b (okB_Ok (by have h : decide ((bif Mo.okB b then (0 : Int) else 2) = 0) = true := hp.1; cases hq : Mo.okB b with | true => rfl | false => rw [hq] at h; cases h)) w M hV⟩, ⟨rfl, fk, fun _ L w hV => rord_is a.TA b.TA w M hV⟩, trivial⟩
theorem rcd_ok (a b : Mo) (M : Int) : AllX Tryz.prog (envE (.int .i64 M :: rcmE a b)) (Vars M) rcmD := by
 refine ⟨⟨rfl, fk, fun hp L w hV => ?_⟩, ⟨rfl, fk, fun hp L w hV => ?_⟩, trivial⟩
 ·have hb := TA_small (okB_Ok (by have h : decide ((bif Mo.okB b then (0 : Int) else 2) = 0) = true := hp.1; cases hq : Mo.okB b with | true => rfl | false => rw [hq] at h; cases h))
  have ho := ord_cases a.TA b.TA
  have hd : (.agg [.xi .i64 (.sub .i64 (.at 29) (.int 50400)), xb 30, xs 31, xi 32] : V).den L (envE (.int .i64 M :: rcmE a b)) = .agg (ptL (b.TA + Dc.U * (-50400))).toArray := by
   refine pt_more (b := 29) ?_ rfl rfl rfl
   have ev : (.sub .i64 (.at 29) (.int 50400) : X).evI (envE (.int .i64 M :: rcmE a b)) = IntKind.i64.wrap (b.TA / Dc.U - 50400) := rfl
   rw [ev, w64 (by omega) (by omega)]
   all_goals omega
  have e1 : V.dens L (envE (.int .i64 M :: rcmE a b)) [ptV 25, .agg [.xi .i64 (.sub .i64 (.at 29) (.int 50400)), xb 30, xs 31, xi 32]] = [.agg (ptL a.TA).toArray, .agg (ptL (b.TA + Dc.U * (-50400))).toArray] := by
   simp only [V.dens, hd]
   rfl
  have hr := rord_is a.TA (b.TA + Dc.U * (-50400)) w M hV
  rw [e1]
  exact hr
 ·have hb := TA_small (okB_Ok (by have h : decide ((bif Mo.okB b then (0 : Int) else 2) = 0) = true := hp.1; cases hq : Mo.okB b with | true => rfl | false => rw [hq] at h; cases h))
  have ho := ord_cases a.TA b.TA
  have hd : (.agg [.xi .i64 (.add .i64 (.at 29) (.int 50400)), xb 30, xs 31, xi 32] : V).den L (envE (.int .i64 M :: rcmE a b)) = .agg (ptL (b.TA + Dc.U * (50400))).toArray := by
   refine pt_more (b := 29) ?_ rfl rfl rfl
   have ev : (.add .i64 (.at 29) (.int 50400) : X).evI (envE (.int .i64 M :: rcmE a b)) = IntKind.i64.wrap (b.TA / Dc.U + 50400) := rfl
   rw [ev, w64 (by omega) (by omega)]
   all_goals omega
  have e1 : V.dens L (envE (.int .i64 M :: rcmE a b)) [ptV 25, .agg [.xi .i64 (.add .i64 (.at 29) (.int 50400)), xb 30, xs 31, xi 32]] = [.agg (ptL a.TA).toArray, .agg (ptL (b.TA + Dc.U * (50400))).toArray] := by
   simp only [V.dens, hd]
   rfl
  have hr := rord_is a.TA (b.TA + Dc.U * (50400)) w M hV
  rw [e1]
  exact hr
theorem rcmpm_at (a b : Mo) (M : Int) : (rtrCmp.at (envE (.int .i64 M :: rcmE a b))).den L0 (envE (.int .i64 M :: rcmE a b)) = .tuple #[.int .i64 (cmpM a b).1, .bool (cmpM a b).2.1, .int .i64 (cmpM a b).2.2] := by
 have hU := Dc.U_pos
 have hz : ∀ q : Bool, decide ((bif q then (0 : Int) else 2) = 0) = q := fun q => by cases q <;> rfl
 have e : rtrCmp.at (envE (.int .i64 M :: rcmE a b)) = bif decide ((bif Mo.okB a then (0 : Int) else 2) = 0) then bif decide ((bif Mo.okB b then (0 : Int) else 2) = 0) then bif decide (a.k = b.k) then bif (a.z == b.z) then .tup [xi 33, .bool true, it 0] else bif decide (Dc.ordI a.TA (b.TA + Dc.U * (-50400)) < 0) then .tup [it (-1), .bool true, it 0] else bif decide (0 < Dc.ordI a.TA (b.TA + Dc.U * 50400)) then .tup [it 1, .bool true, it 0] else .tup [it 0, .bool false, it 0] else .tup [it 0, .bool false, it 2] else .tup [it 0, .bool false, it 2] else .tup [it 0, .bool false, it 2] := rfl
 rw [e]
 simp only [hz, cmpM]
 by_cases hc : Mo.okB a = true /\ Mo.okB b = true /\ a.k = b.k
 ·rw [if_pos hc]
  obtain ⟨h1, h2, h3⟩ := hc
  rw [h1, h2, decide_eq_true h3]
  simp only [cond_true]
  by_cases hz : a.z = b.z
  ·rw [if_pos hz, show (a.z == b.z) = true by rw [hz]; simp]
   rfl
  ·rw [show (a.z == b.z) = false by simpa using hz]
   simp only [cond_false]
   rw [if_neg hz]
   by_cases hl : a.TA < b.TA - Dc.U * 50400
   ·have e : Dc.ordI a.TA (b.TA + Dc.U * (-50400)) = -1 := by unfold Dc.ordI; rw [if_pos (by omega)]
    rw [if_pos hl, e, decide_eq_true (by decide)]
    rfl
   ·have e : ¬ Dc.ordI a.TA (b.TA + Dc.U * (-50400)) < 0 := by unfold Dc.ordI; rw [if_neg (by omega)]; split <;> decide
    rw [if_neg hl, decide_eq_false e]
    by_cases hg : b.TA + Dc.U * 50400 < a.TA
    ·have e : Dc.ordI a.TA (b.TA + Dc.U * 50400) = 1 := by unfold Dc.ordI; rw [if_neg (by omega), if_pos hg]
     rw [if_pos hg, e, decide_eq_true (by decide)]
     rfl
    ·have e : ¬ 0 < Dc.ordI a.TA (b.TA + Dc.U * 50400) := by
      unfold Dc.ordI
      split <;> first | decide | (rw [if_neg (by omega)]; decide)
     rw [if_neg hg, decide_eq_false e]
     rfl
 ·rw [if_neg hc]
  cases h1 : Mo.okB a with
  | false => rfl
  | true =>
   cases h2 : Mo.okB b with
   | false => rfl
   | true =>
    rw [decide_eq_false (fun h3 => hc ⟨h1, h2, h3⟩)]
    rfl
theorem rcmpm_is (a b : Mo) (ha : a.s.size <= 1000000) (hb : b.s.size <= 1000000) (o : Int) (t : Bool) (k : Int) (hr : cmpM a b = (o, t, k)) (w : World) (M : Int) (hV : Vars M w) : Calls Tryz.prog 46 #[a.val, b.val] w fun e w' => e = .returned (.tuple #[.int .i64 o, .bool t, .int .i64 k]) /\ Below w.heap.size w w' := by
 have h := tree_run (env := rcmE a b) rrun_cmpm (AllX_append (rcm_ok a b ha hb M) (rcd_ok a b M)) rfl trivial rfl hV
 rw [rcmpm_at a b M, hr] at h
 exact h
theorem requal_at (a b : Mo) (M : Int) : (rtrEqual.at (envE (.int .i64 M :: rcmE a b))).den L0 (envE (.int .i64 M :: rcmE a b)) = .tuple #[.bool (equalM a b).1, .int .i64 (equalM a b).2] := by
 have hz : ∀ q : Bool, decide ((bif q then (0 : Int) else 2) = 0) = q := fun q => by cases q <;> rfl
 have e : rtrEqual.at (envE (.int .i64 M :: rcmE a b)) = bif decide ((bif Mo.okB a then (0 : Int) else 2) = 0) then bif decide ((bif Mo.okB b then (0 : Int) else 2) = 0) then bif decide (a.k = b.k) then bif (a.z == b.z) then bif decide (Dc.ordI a.TA b.TA = 0) then .tup [.bool true, it 0] else .tup [.bool false, it 0] else .tup [.bool false, it 0] else .tup [.bool false, it 2] else .tup [.bool false, it 2] else .tup [.bool false, it 2] := rfl
 rw [e]
 simp only [hz, equalM]
 by_cases hc : Mo.okB a = true /\ Mo.okB b = true /\ a.k = b.k
 ·rw [if_pos hc]
  obtain ⟨h1, h2, h3⟩ := hc
  rw [h1, h2, decide_eq_true h3]
  simp only [cond_true]
  by_cases hz : a.z = b.z
  ·rw [show (a.z == b.z) = true by rw [hz]; simp]
   by_cases ht : a.TA = b.TA
   ·rw [decide_eq_true (show a.z = b.z /\ a.TA = b.TA from ⟨hz, ht⟩), decide_eq_true (by rcases ord_cases a.TA b.TA with ⟨h, _⟩ | ⟨_, h⟩ | ⟨h, _⟩ <;> omega)]
    rfl
   ·rw [decide_eq_false (fun q : a.z = b.z /\ a.TA = b.TA => ht q.2), decide_eq_false (by rcases ord_cases a.TA b.TA with ⟨_, h⟩ | ⟨h, _⟩ | ⟨_, h⟩ <;> omega)]
    rfl
  ·rw [show (a.z == b.z) = false by simpa using hz, decide_eq_false (fun q : a.z = b.z /\ a.TA = b.TA => hz q.1)]
   rfl
 ·rw [if_neg hc]
  cases h1 : Mo.okB a with
  | false => rfl
  | true =>
   cases h2 : Mo.okB b with
   | false => rfl
   | true =>
    rw [decide_eq_false (fun h3 => hc ⟨h1, h2, h3⟩)]
    rfl
theorem requalm_is (a b : Mo) (ha : a.s.size <= 1000000) (hb : b.s.size <= 1000000) (t : Bool) (k : Int) (hr : equalM a b = (t, k)) (w : World) (M : Int) (hV : Vars M w) : Calls Tryz.prog 81 #[a.val, b.val] w fun e w' => e = .returned (.tuple #[.bool t, .int .i64 k]) /\ Below w.heap.size w w' := by
 have h := tree_run (env := rcmE a b) rrun_equalm (rcm_ok a b ha hb M) rfl trivial rfl hV
 rw [requal_at a b M, hr] at h
 exact h
end Go.Proofs.YthoojcdjjecogaaGreatDoor
