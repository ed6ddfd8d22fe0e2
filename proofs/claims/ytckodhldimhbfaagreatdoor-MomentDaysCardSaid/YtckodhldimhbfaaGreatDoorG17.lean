/-
  Part 17 of the proof: what functions return, and plain facts (Mpoint Mplus Msplit Mdays Mrdays Mrdate). Conditions: each theorem names its own.
-/
import Derived.Test.YtckodhldimhbfaaGreatDoorG16
import Derived.Test.YtckodhldimhbfaaGreatDoorG09
import Derived.Test.YtckodhldimhbfaaGreatDoorG14
import Derived.Lib.ParseIntBCases
import Derived.Lib.AtoiErrMem
set_option maxRecDepth 1000000
set_option maxHeartbeats 16000000
namespace Go.Proofs.YtckodhldimhbfaaGreatDoor
open Go Go.RowKit Go.Ex

theorem w64 {n : Int} (h0 : -9223372036854775808 <= n) (h1 : n <= 9223372036854775807) : IntKind.i64.wrap n = n := by
 rw [IntKind.wrap_i64]; omega
def befX : X := .add .i64 (.sub .i64 (.add .i64 (.mul .i64 (.int 365) (.at 1)) (.sub .i64 (.quo .i64 (.add .i64 (.at 1) (.int 40000)) (.int 4)) (.int 10000))) (.sub .i64 (.quo .i64 (.add .i64 (.at 1) (.int 40000)) (.int 100)) (.int 400))) (.sub .i64 (.quo .i64 (.add .i64 (.at 1) (.int 40000)) (.int 400)) (.int 100))
theorem run_before : chk (runTr Tryz.prog nG (fun _ => none) gd moT [] 100 109 [xi 1] h0) (.leaf (.xi .i64 befX)) [] = true := by decide +kernel
theorem bef_ev {E : Nat -> Value} {y : Int} (h : E 1 = .int .i64 y) (h0 : -40000 <= y) (h1 : y <= 40000) : befX.evI E = Mo.bef y := by
 have t4 := Mo.over4 h0
 have t100 := Mo.over100 h0
 have t400 := Mo.over400 h0
 simp only [befX, X.evI, h]
 rw [w64 (n := y + 40000) (by omega) (by omega)]
 generalize (y + 40000).tdiv 4 = a at *
 generalize (y + 40000).tdiv 100 = b at *
 generalize (y + 40000).tdiv 400 = c at *
 rw [w64 (n := a) (by omega) (by omega), w64 (n := b) (by omega) (by omega), w64 (n := c) (by omega) (by omega), w64 (n := 365 * y) (by omega) (by omega), t4, t100, t400]
 unfold Mo.bef
 rw [w64 (n := y / 4) (by omega) (by omega), w64 (n := y / 100) (by omega) (by omega), w64 (n := y / 400) (by omega) (by omega), w64 (n := 365 * y + y / 4) (by omega) (by omega), w64 (n := 365 * y + y / 4 - y / 100) (by omega) (by omega), w64 (by omega) (by omega)]
theorem pbefore_is (y : Int) (h0 : -40000 <= y) (h1 : y <= 40000) (w : World) (M : Int) (hV : Vars M w) : Calls Tryz.prog 109 #[.int .i64 y] w fun e w' => e = .returned (.int .i64 (Mo.bef y)) /\ Below w.heap.size w w' := by
 have h := tree_run (env := [.int .i64 y]) run_before trivial rfl trivial rfl hV
 simp only [Tree.at, V.den] at h
 rw [bef_ev rfl h0 h1] at h
 exact h
def dayX : Nat -> X
 | 0 => .sub .i64 (.add .i64 (.at 3) (.at 2)) (.int 1)
 | k + 1 => .add .i64 (dayX k) (.at (4 + k))
def dayC : List CallX := [⟨109, [.xi .i64 (.sub .i64 (.at 1) (.int 1))], [], xi 3⟩, ⟨35, [xi 1, it 1], [], xi 4⟩, ⟨35, [xi 1, it 2], [], xi 5⟩, ⟨35, [xi 1, it 3], [], xi 6⟩, ⟨35, [xi 1, it 4], [], xi 7⟩, ⟨35, [xi 1, it 5], [], xi 8⟩, ⟨35, [xi 1, it 6], [], xi 9⟩, ⟨35, [xi 1, it 7], [], xi 10⟩, ⟨35, [xi 1, it 8], [], xi 11⟩, ⟨35, [xi 1, it 9], [], xi 12⟩, ⟨35, [xi 1, it 10], [], xi 13⟩, ⟨35, [xi 1, it 11], [], xi 14⟩]
theorem run_days : ([0, 1, 2, 3, 4, 5, 6, 7, 8, 9, 10, 11] : List Nat).all (fun k => chk (runTr Tryz.prog nG (fun _ => none) gd moT dayC 100 70 [xi 1, it (k + 1), xi 2] h0) (.leaf (.xi .i64 (dayX k))) []) = true := by decide +kernel
def dayE (y d : Int) : List Value := [.int .i64 y, .int .i64 d, .int .i64 (Mo.bef (y - 1)), .int .i64 (Mo.dim y 1), .int .i64 (Mo.dim y 2), .int .i64 (Mo.dim y 3), .int .i64 (Mo.dim y 4), .int .i64 (Mo.dim y 5), .int .i64 (Mo.dim y 6), .int .i64 (Mo.dim y 7), .int .i64 (Mo.dim y 8), .int .i64 (Mo.dim y 9), .int .i64 (Mo.dim y 10), .int .i64 (Mo.dim y 11)]
theorem day_ev {M y d : Int} (h0 : -30000 <= y) (h1 : y <= 30000) (d0 : -1000 <= d) (d1 : d <= 1000) : ∀ k : Nat, k <= 11 -> (dayX k).evI (envE (.int .i64 M :: dayE y d)) = Mo.dayN y ((k : Int) + 1) d
 | 0, _ => by
  have e : (dayX 0).evI (envE (.int .i64 M :: dayE y d)) = IntKind.i64.wrap (IntKind.i64.wrap (Mo.bef (y - 1) + d) - 1) := rfl
  have hb : -20000000 <= Mo.bef (y - 1) /\ Mo.bef (y - 1) <= 20000000 := by unfold Mo.bef; omega
  rw [e, w64 (n := Mo.bef (y - 1) + d) (by omega) (by omega), w64 (by omega) (by omega)]
  unfold Mo.dayN
  rw [show ((0 : Nat) : Int) + 1 = 1 from rfl, Mo.cum_one]
  omega
 | k + 1, hk => by
  have ih := day_ev (M := M) h0 h1 d0 d1 k (by omega)
  have e : (dayX (k + 1)).evI (envE (.int .i64 M :: dayE y d)) = IntKind.i64.wrap ((dayX k).evI (envE (.int .i64 M :: dayE y d)) + (X.at (4 + k)).evI (envE (.int .i64 M :: dayE y d))) := rfl
  have ea : (X.at (4 + k)).evI (envE (.int .i64 M :: dayE y d)) = Mo.dim y ((k : Int) + 1) := by
   have hk' : k = 0 \/ k = 1 \/ k = 2 \/ k = 3 \/ k = 4 \/ k = 5 \/ k = 6 \/ k = 7 \/ k = 8 \/ k = 9 \/ k = 10 := by omega
   rcases hk' with rfl | rfl | rfl | rfl | rfl | rfl | rfl | rfl | rfl | rfl | rfl <;> rfl
  have hb : -20000000 <= Mo.bef (y - 1) /\ Mo.bef (y - 1) <= 20000000 := by unfold Mo.bef; omega
  have hc := Mo.cum_succ y ((k : Int) + 1) (by omega) (by omega)
  have hl := Mo.cum_lo y ((k : Int) + 1) (by omega) (by omega)
  have hd := Mo.dim_bd y ((k : Int) + 1)
  rw [e, ih, ea]
  unfold Mo.dayN
  rw [show ((k + 1 : Nat) : Int) + 1 = (k : Int) + 1 + 1 by omega, hc, w64 (by omega) (by omega)]
  omega
theorem day_ok (y d : Int) (h0 : -30000 <= y) (h1 : y <= 30000) (M : Int) : AllX Tryz.prog (envE (.int .i64 M :: dayE y d)) (Vars M) dayC := by
 have F : ∃ fn, Tryz.prog.funcs[(35 : Nat)]? = some fn /\ (fn.name == "runtime.NumGoroutine") = false /\ fn.body.isNone = false := fk
 refine ⟨⟨rfl, fk, fun _ L w hV => ?_⟩,
  ⟨rfl, F, fun _ L w hV => plength_is y 1 (by decide) (by decide) w M hV⟩, ⟨rfl, F, fun _ L w hV => plength_is y 2 (by decide) (by decide) w M hV⟩, ⟨rfl, F, fun _ L w hV => plength_is y 3 (by decide) (by decide) w M hV⟩, ⟨rfl, F, fun _ L w hV => plength_is y 4 (by decide) (by decide) w M hV⟩,
  ⟨rfl, F, fun _ L w hV => plength_is y 5 (by decide) (by decide) w M hV⟩, ⟨rfl, F, fun _ L w hV => plength_is y 6 (by decide) (by decide) w M hV⟩, ⟨rfl, F, fun _ L w hV => plength_is y 7 (by decide) (by decide) w M hV⟩, ⟨rfl, F, fun _ L w hV => plength_is y 8 (by decide) (by decide) w M hV⟩,
  ⟨rfl, F, fun _ L w hV => plength_is y 9 (by decide) (by decide) w M hV⟩, ⟨rfl, F, fun _ L w hV => plength_is y 10 (by decide) (by decide) w M hV⟩, ⟨rfl, F, fun _ L w hV => plength_is y 11 (by decide) (by decide) w M hV⟩, trivial⟩
 have h := pbefore_is (y - 1) (by omega) (by omega) w M hV
 have e : V.dens L (envE (.int .i64 M :: dayE y d)) [.xi .i64 (.sub .i64 (.at 1) (.int 1))] = [.int .i64 (y - 1)] := by
  show [Value.int .i64 (IntKind.i64.wrap (y - 1))] = _
  rw [w64 (by omega) (by omega)]
 show Calls _ _ (V.dens L (envE (.int .i64 M :: dayE y d)) [.xi .i64 (.sub .i64 (.at 1) (.int 1))]).toArray w _
 rw [e]
 exact h
theorem pdays_is (y m d : Int) (h0 : -30000 <= y) (h1 : y <= 30000) (m1 : 1 <= m) (m2 : m <= 12) (d0 : -1000 <= d) (d1 : d <= 1000) (w : World) (M : Int) (hV : Vars M w) : Calls Tryz.prog 70 #[.int .i64 y, .int .i64 m, .int .i64 d] w fun e w' => e = .returned (.int .i64 (Mo.dayN y m d)) /\ Below w.heap.size w w' := by
 obtain ⟨k, rfl⟩ : ∃ k : Nat, m = (k : Int) + 1 := ⟨(m - 1).toNat, by omega⟩
 have hr := List.all_eq_true.1 run_days k (by simp only [List.mem_cons, List.not_mem_nil, or_false]; omega)
 have h := tree_run (env := dayE y d) hr (day_ok y d h0 h1 M) rfl trivial rfl hV
 simp only [Tree.at, V.den] at h
 rw [day_ev h0 h1 d0 d1 k (by omega)] at h
 exact h

def decL (a : Dc.D) : List Value := [.bool a.1, .string (str (Dc.digs a.2.1)), .int .i64 (a.2.2 : Int)]
def ptL (T : Int) : List Value := .int .i64 (T / Dc.U) :: decL (Dc.frac (T % Dc.U))
def ptV (b : Nat) : V := .agg [xi b, xb (b + 1), xs (b + 2), xi (b + 3)]
def one : V := .agg [.bool false, .str [49], it 0]
theorem digs_size60 {a : Dc.D} (h : Dc.ok a) : (str (Dc.digs a.2.1)).size <= 1000000 := by
 have h1 : (Dc.digs a.2.1).length <= 60 := h.1
 rw [str_size]; omega
theorem two_some {f : Dc.D -> Dc.D -> Option Dc.D} {a b c : Dc.D} (ha : Dc.ok a) (hb : Dc.ok b) (h : f a b = some c) : twoR f a.1 (str (Dc.digs a.2.1)) (a.2.2 : Int) b.1 (str (Dc.digs b.2.1)) (b.2.2 : Int) = ⟨c.1, str (Dc.digs c.2.1), (c.2.2 : Int), 0⟩ := by
 rw [two_yes (ok_okB ha) (ok_okB hb), raw_of, raw_of, h]; rfl
theorem cmp_some {a b : Dc.D} (ha : Dc.ok a) (hb : Dc.ok b) : cmpR a.1 (str (Dc.digs a.2.1)) (a.2.2 : Int) b.1 (str (Dc.digs b.2.1)) (b.2.2 : Int) = (Dc.cmpD a b, 0) := by
 unfold cmpR
 rw [if_pos ⟨ok_okB ha, ok_okB hb⟩, raw_of, raw_of]
theorem one_str : str (Dc.digs 1) = ⟨#[49]⟩ := by rw [Dc.digs_low (by decide)]; rfl
def Small (T : Int) : Prop := -900000000000000 <= T / Dc.U /\ T / Dc.U <= 900000000000000
def plL (T : Int) : Dc.D := Dc.frac (Dc.U - T % Dc.U)
def plA (S T : Int) : Res := twoR Dc.addD (Dc.frac (S % Dc.U)).1 (str (Dc.digs (Dc.frac (S % Dc.U)).2.1)) ((Dc.frac (S % Dc.U)).2.2 : Int) (Dc.frac (T % Dc.U)).1 (str (Dc.digs (Dc.frac (T % Dc.U)).2.1)) ((Dc.frac (T % Dc.U)).2.2 : Int)
def plS (S T : Int) : Res := twoR Dc.subD (Dc.frac (S % Dc.U)).1 (str (Dc.digs (Dc.frac (S % Dc.U)).2.1)) ((Dc.frac (S % Dc.U)).2.2 : Int) (plL T).1 (str (Dc.digs (plL T).2.1)) ((plL T).2.2 : Int)
def plE (S T : Int) : List Value := ptL S ++ ptL T ++ decL (plL T) ++ [.int .i64 0, .int .i64 (Dc.cmpD (Dc.frac (S % Dc.U)) (plL T)), .int .i64 0] ++ resL (plA S T) ++ resL (plS S T)
theorem frac_p (T : Int) : Dc.ok (Dc.frac (T % Dc.U)) := (Dc.frac_ok (Dc.emod_bd T).1 (Dc.emod_bd T).2).1
theorem plL_ok (T : Int) : Dc.ok (plL T) := (Dc.le_some (r := Dc.U - T % Dc.U) (by have := Dc.emod_bd T; omega) (by have := Dc.emod_bd T; omega)).2.1
def trPlus : Tree := (.node (.lt (.at 13) (.int 0)) (.leaf (.agg [(.xi .i64 (.add .i64 (.at 1) (.at 5))), (.xb (.at 15)), (.xs (.at 16)), (.xi .i64 (.at 17))])) (.leaf (.agg [(.xi .i64 (.add .i64 (.add .i64 (.at 1) (.at 5)) (.int 1))), (.xb (.at 19)), (.xs (.at 20)), (.xi .i64 (.at 21))])))
theorem plus_at (S T M : Int) (hS : Small S) (hT : Small T) : (trPlus.at (envE (.int .i64 M :: plE S T))).den L0 (envE (.int .i64 M :: plE S T)) = .agg (ptL (S + T)).toArray := by
 obtain ⟨s0, s1⟩ := hS
 obtain ⟨t0, t1⟩ := hT
 obtain ⟨a0, a1⟩ := Dc.emod_bd S
 obtain ⟨b0, b1⟩ := Dc.emod_bd T
 obtain ⟨p1, p2⟩ := Dc.plus_parts S T
 have hc := Dc.plus_cmp a0 a1 b0 b1
 have e : trPlus.at (envE (.int .i64 M :: plE S T)) = bif decide (Dc.cmpD (Dc.frac (S % Dc.U)) (plL T) < 0) then .agg [(.xi .i64 (.add .i64 (.at 1) (.at 5))), (.xb (.at 15)), (.xs (.at 16)), (.xi .i64 (.at 17))] else .agg [(.xi .i64 (.add .i64 (.add .i64 (.at 1) (.at 5)) (.int 1))), (.xb (.at 19)), (.xs (.at 20)), (.xi .i64 (.at 21))] := rfl
 rw [e]
 change (Dc.cmpD (Dc.frac (S % Dc.U)) (plL T) < 0) = _ at hc
 simp only [hc]
 by_cases h : S % Dc.U + T % Dc.U < Dc.U
 ·rw [if_pos h] at p1 p2
  have hA : plA S T = ⟨(Dc.frac (S % Dc.U + T % Dc.U)).1, str (Dc.digs (Dc.frac (S % Dc.U + T % Dc.U)).2.1), ((Dc.frac (S % Dc.U + T % Dc.U)).2.2 : Int), 0⟩ := two_some (frac_p S) (frac_p T) (Dc.plus_add a0 a1 b0 b1 h)
  rw [decide_eq_true h, cond_true]
  show Value.agg [.int .i64 (IntKind.i64.wrap (S / Dc.U + T / Dc.U)), .bool (plA S T).n, .string (plA S T).s, .int .i64 (plA S T).S].toArray = _
  rw [hA, w64 (by omega) (by omega)]
  unfold ptL decL
  rw [p1, p2]
 ·rw [if_neg h] at p1 p2
  have hA : plS S T = ⟨(Dc.frac (S % Dc.U + T % Dc.U - Dc.U)).1, str (Dc.digs (Dc.frac (S % Dc.U + T % Dc.U - Dc.U)).2.1), ((Dc.frac (S % Dc.U + T % Dc.U - Dc.U)).2.2 : Int), 0⟩ := two_some (frac_p S) (plL_ok T) (Dc.plus_sub a0 a1 b0 b1 h)
  rw [decide_eq_false h, cond_false]
  show Value.agg [.int .i64 (IntKind.i64.wrap (IntKind.i64.wrap (S / Dc.U + T / Dc.U) + 1)), .bool (plS S T).n, .string (plS S T).s, .int .i64 (plS S T).S].toArray = _
  rw [hA, w64 (n := S / Dc.U + T / Dc.U) (by omega) (by omega), w64 (by omega) (by omega)]
  unfold ptL decL
  rw [p1, p2]
theorem left_is (T : Int) : twoR Dc.subD false ⟨#[49]⟩ 0 (Dc.frac (T % Dc.U)).1 (str (Dc.digs (Dc.frac (T % Dc.U)).2.1)) ((Dc.frac (T % Dc.U)).2.2 : Int) = ⟨(plL T).1, str (Dc.digs (plL T).2.1), ((plL T).2.2 : Int), 0⟩ := by
 have h := two_some (f := Dc.subD) (a := (false, 1, 0)) Dc.one_ok (frac_p T) (Dc.plus_left (Dc.emod_bd T).1 (Dc.emod_bd T).2)
 rw [one_str] at h
 exact h
def trPcmp : Tree := (.node (.lt (.at 1) (.at 5)) (.leaf (it (-1))) (.node (.lt (.at 5) (.at 1)) (.leaf (it 1)) (.leaf (.xi .i64 (.at 9)))))
def pcE (S T : Int) : List Value := ptL S ++ ptL T ++ [.int .i64 (Dc.cmpD (Dc.frac (S % Dc.U)) (Dc.frac (T % Dc.U))), .int .i64 0]
theorem pcmp_at (S T M : Int) : (trPcmp.at (envE (.int .i64 M :: pcE S T))).den L0 (envE (.int .i64 M :: pcE S T)) = .int .i64 (Dc.ordI S T) := by
 rw [Dc.point_ord]
 have e : trPcmp.at (envE (.int .i64 M :: pcE S T)) = bif decide (S / Dc.U < T / Dc.U) then it (-1) else bif decide (T / Dc.U < S / Dc.U) then it 1 else .xi .i64 (.at 9) := rfl
 rw [e]
 by_cases h1 : S / Dc.U < T / Dc.U
 ·rw [decide_eq_true h1, if_pos h1]; rfl
 ·rw [decide_eq_false h1, if_neg h1]
  by_cases h2 : T / Dc.U < S / Dc.U
  ·rw [decide_eq_true h2, if_pos h2]; rfl
  ·rw [decide_eq_false h2, if_neg h2]; rfl
def pplC : List CallX := [⟨32, [it 1], [], one⟩, ⟨87, [one, deV 6], [], .tup [deV 9, xi 12]⟩, ⟨31, [deV 2, deV 9], [], .tup [xi 13, xi 14]⟩, ⟨86, [deV 2, deV 6], [], .tup [deV 15, xi 18]⟩, ⟨87, [deV 2, deV 9], [], .tup [deV 19, xi 22]⟩]
theorem prun_plus : chk (runTr Tryz.prog nG (fun _ => none) gd moT pplC 100 39 [ptV 1, ptV 5] h0) trPlus [] = true := by decide +kernel
theorem ppl_ok (S T M : Int) : AllX Tryz.prog (envE (.int .i64 M :: plE S T)) (Vars M) pplC :=
 ⟨⟨rfl, fk, fun _ L w hV => pOf_any 1 (by decide) (by decide) w hV.pow⟩,
  ⟨rfl, fk, fun _ L w hV => psub_is false ⟨#[49]⟩ 0 (Dc.frac (T % Dc.U)).1 (str (Dc.digs (Dc.frac (T % Dc.U)).2.1)) ((Dc.frac (T % Dc.U)).2.2 : Int) (by decide) (digs_size60 (frac_p T)) _ (left_is T) w hV⟩,
  ⟨rfl, fk, fun _ L w hV => pcmp_is (Dc.frac (S % Dc.U)).1 (str (Dc.digs (Dc.frac (S % Dc.U)).2.1)) ((Dc.frac (S % Dc.U)).2.2 : Int) (plL T).1 (str (Dc.digs (plL T).2.1)) ((plL T).2.2 : Int) (digs_size60 (frac_p S)) (digs_size60 (plL_ok T)) _ _ (cmp_some (frac_p S) (plL_ok T)) w⟩,
  ⟨rfl, fk, fun _ L w hV => padd_is (Dc.frac (S % Dc.U)).1 (str (Dc.digs (Dc.frac (S % Dc.U)).2.1)) ((Dc.frac (S % Dc.U)).2.2 : Int) (Dc.frac (T % Dc.U)).1 (str (Dc.digs (Dc.frac (T % Dc.U)).2.1)) ((Dc.frac (T % Dc.U)).2.2 : Int) (digs_size60 (frac_p S)) (digs_size60 (frac_p T)) (plA S T) rfl w hV⟩,
  ⟨rfl, fk, fun _ L w hV => psub_is (Dc.frac (S % Dc.U)).1 (str (Dc.digs (Dc.frac (S % Dc.U)).2.1)) ((Dc.frac (S % Dc.U)).2.2 : Int) (plL T).1 (str (Dc.digs (plL T).2.1)) ((plL T).2.2 : Int) (digs_size60 (frac_p S)) (digs_size60 (plL_ok T)) (plS S T) rfl w hV⟩, trivial⟩
theorem pplus_is (S T : Int) (hS : Small S) (hT : Small T) (w : World) (M : Int) (hV : Vars M w) : Calls Tryz.prog 39 #[.agg (ptL S).toArray, .agg (ptL T).toArray] w fun e w' => e = .returned (.agg (ptL (S + T)).toArray) /\ Below w.heap.size w w' := by
 have h := tree_run (env := plE S T) prun_plus (ppl_ok S T M) rfl trivial rfl hV
 rw [plus_at S T M hS hT] at h
 exact h
def ppcC : List CallX := [⟨31, [deV 2, deV 6], [], .tup [xi 9, xi 10]⟩]
theorem prun_ord : chk (runTr Tryz.prog nG (fun _ => none) gd moT ppcC 100 74 [ptV 1, ptV 5] h0) trPcmp [] = true := by decide +kernel
theorem pord_is (S T : Int) (w : World) (M : Int) (hV : Vars M w) : Calls Tryz.prog 74 #[.agg (ptL S).toArray, .agg (ptL T).toArray] w fun e w' => e = .returned (.int .i64 (Dc.ordI S T)) /\ Below w.heap.size w w' := by
 have hc : AllX Tryz.prog (envE (.int .i64 M :: pcE S T)) (Vars M) ppcC := ⟨⟨rfl, fk, fun _ L w hV => pcmp_is (Dc.frac (S % Dc.U)).1 (str (Dc.digs (Dc.frac (S % Dc.U)).2.1)) ((Dc.frac (S % Dc.U)).2.2 : Int) (Dc.frac (T % Dc.U)).1 (str (Dc.digs (Dc.frac (T % Dc.U)).2.1)) ((Dc.frac (T % Dc.U)).2.2 : Int) (digs_size60 (frac_p S)) (digs_size60 (frac_p T)) _ _ (cmp_some (frac_p S) (frac_p T)) w⟩, trivial⟩
 have h := tree_run (env := pcE S T) prun_ord hc rfl trivial rfl hV
 rw [pcmp_at S T M] at h
 exact h
def rplC : List CallX := [⟨69, [it 1], [], one⟩, ⟨95, [one, deV 6], [], .tup [deV 9, xi 12]⟩, ⟨90, [deV 2, deV 9], [], .tup [xi 13, xi 14]⟩, ⟨94, [deV 2, deV 6], [], .tup [deV 15, xi 18]⟩, ⟨95, [deV 2, deV 9], [], .tup [deV 19, xi 22]⟩]
theorem rrun_plus : chk (runTr Tryz.prog nG (fun _ => none) gd moT rplC 100 47 [ptV 1, ptV 5] h0) trPlus [] = true := by decide +kernel
theorem rpl_ok (S T M : Int) : AllX Tryz.prog (envE (.int .i64 M :: plE S T)) (Vars M) rplC :=
 ⟨⟨rfl, fk, fun _ L w hV => rsmall_is 1 (by decide) (by decide) w M hV⟩,
  ⟨rfl, fk, fun _ L w hV => rsub_is false ⟨#[49]⟩ 0 (Dc.frac (T % Dc.U)).1 (str (Dc.digs (Dc.frac (T % Dc.U)).2.1)) ((Dc.frac (T % Dc.U)).2.2 : Int) (by decide) (digs_size60 (frac_p T)) _ (left_is T) w⟩,
  ⟨rfl, fk, fun _ L w hV => rcmp_is (Dc.frac (S % Dc.U)).1 (str (Dc.digs (Dc.frac (S % Dc.U)).2.1)) ((Dc.frac (S % Dc.U)).2.2 : Int) (plL T).1 (str (Dc.digs (plL T).2.1)) ((plL T).2.2 : Int) (digs_size60 (frac_p S)) (digs_size60 (plL_ok T)) _ _ (cmp_some (frac_p S) (plL_ok T)) w⟩,
  ⟨rfl, fk, fun _ L w hV => radd_is (Dc.frac (S % Dc.U)).1 (str (Dc.digs (Dc.frac (S % Dc.U)).2.1)) ((Dc.frac (S % Dc.U)).2.2 : Int) (Dc.frac (T % Dc.U)).1 (str (Dc.digs (Dc.frac (T % Dc.U)).2.1)) ((Dc.frac (T % Dc.U)).2.2 : Int) (digs_size60 (frac_p S)) (digs_size60 (frac_p T)) (plA S T) rfl w⟩,
  ⟨rfl, fk, fun _ L w hV => rsub_is (Dc.frac (S % Dc.U)).1 (str (Dc.digs (Dc.frac (S % Dc.U)).2.1)) ((Dc.frac (S % Dc.U)).2.2 : Int) (plL T).1 (str (Dc.digs (plL T).2.1)) ((plL T).2.2 : Int) (digs_size60 (frac_p S)) (digs_size60 (plL_ok T)) (plS S T) rfl w⟩, trivial⟩
theorem rplus_is (S T : Int) (hS : Small S) (hT : Small T) (w : World) (M : Int) (hV : Vars M w) : Calls Tryz.prog 47 #[.agg (ptL S).toArray, .agg (ptL T).toArray] w fun e w' => e = .returned (.agg (ptL (S + T)).toArray) /\ Below w.heap.size w w' := by
 have h := tree_run (env := plE S T) rrun_plus (rpl_ok S T M) rfl trivial rfl hV
 rw [plus_at S T M hS hT] at h
 exact h
def rpcC : List CallX := [⟨90, [deV 2, deV 6], [], .tup [xi 9, xi 10]⟩]
theorem rrun_ord : chk (runTr Tryz.prog nG (fun _ => none) gd moT rpcC 100 75 [ptV 1, ptV 5] h0) trPcmp [] = true := by decide +kernel
theorem rord_is (S T : Int) (w : World) (M : Int) (hV : Vars M w) : Calls Tryz.prog 75 #[.agg (ptL S).toArray, .agg (ptL T).toArray] w fun e w' => e = .returned (.int .i64 (Dc.ordI S T)) /\ Below w.heap.size w w' := by
 have hc : AllX Tryz.prog (envE (.int .i64 M :: pcE S T)) (Vars M) rpcC := ⟨⟨rfl, fk, fun _ L w hV => rcmp_is (Dc.frac (S % Dc.U)).1 (str (Dc.digs (Dc.frac (S % Dc.U)).2.1)) ((Dc.frac (S % Dc.U)).2.2 : Int) (Dc.frac (T % Dc.U)).1 (str (Dc.digs (Dc.frac (T % Dc.U)).2.1)) ((Dc.frac (T % Dc.U)).2.2 : Int) (digs_size60 (frac_p S)) (digs_size60 (frac_p T)) _ _ (cmp_some (frac_p S) (frac_p T)) w⟩, trivial⟩
 have h := tree_run (env := pcE S T) rrun_ord hc rfl trivial rfl hV
 rw [pcmp_at S T M] at h
 exact h

theorem parse_digs : ∀ (l : List UInt8) (acc : Nat), (l.map UInt8.toNat).all Dc.dig = true -> acc * 10 ^ l.length + Dc.val (l.map UInt8.toNat) <= 1000000000000000000 -> Lib.parseUintM (2 ^ 64 - 1) acc l = .ok (acc * 10 ^ l.length + Dc.val (l.map UInt8.toNat))
 | [], acc, _, _ => by simp [Lib.parseUintM, Dc.val]
 | c :: r, acc, hd, hs => by
  rw [List.map_cons, List.all_cons, Bool.and_eq_true] at hd
  obtain ⟨h1, h2⟩ := hd
  obtain ⟨d1, d2⟩ := Dc.dig_iff.1 h1
  have e : acc * 10 ^ (c :: r).length + Dc.val ((c :: r).map UInt8.toNat) = (acc * 10 + (c.toNat - 48)) * 10 ^ r.length + Dc.val (r.map UInt8.toNat) := by
   rw [List.map_cons, Dc.val_cons, List.length_map, List.length_cons, Nat.pow_succ, Nat.add_mul, Nat.mul_assoc acc, Nat.mul_comm 10]
   omega
  have hp := Dc.pow10_pos r.length
  have ha : acc * 10 + (c.toNat - 48) <= 1000000000000000000 := by
   have := Nat.le_mul_of_pos_right (acc * 10 + (c.toNat - 48)) hp
   omega
  rw [e]
  unfold Lib.parseUintM
  rw [if_pos ⟨d1, d2⟩, if_neg (by omega), if_neg (by omega)]
  exact parse_digs r _ h2 (by omega)
theorem parse_int {t : ByteArray} {n : Bool} {v : Nat} (hb : bts t = if n then 45 :: Dc.digs v else Dc.digs v) (hv : v <= 1000000000000000000) : Lib.parseIntB 64 t.data.toList = .ok (Dc.sg n v) := by
 have key : ∀ l : List UInt8, l.map UInt8.toNat = Dc.digs v -> Lib.parseUintB 64 l = .ok v := by
  intro l hl
  have hne : l ≠ [] := by rintro rfl; exact Dc.digs_ne v hl.symm
  unfold Lib.parseUintB
  rw [if_neg hne, parse_digs l 0 (by rw [hl]; exact Dc.digs_dig v) (by rw [hl, Dc.val_digs]; omega), hl, Dc.val_digs]
  simp
 unfold bts at hb
 cases hl : t.data.toList with
 | nil =>
  rw [hl] at hb
  cases n
  ·exact absurd hb.symm (Dc.digs_ne v)
  ·cases hb
 | cons c r =>
  rw [hl] at hb
  cases n with
  | true =>
   simp only [if_true, List.map_cons, List.cons.injEq] at hb
   have hc : c = 45 := UInt8.toNat_inj.1 hb.1
   subst hc
   rw [Lib.parseIntB_minus, key r hb.2]
   unfold Lib.signedC Dc.sg
   simp
   omega
  | false =>
   simp only [Bool.false_eq_true, if_false] at hb
   have hd := Dc.digs_dig v
   rw [<- hb, List.map_cons, List.all_cons, Bool.and_eq_true] at hd
   obtain ⟨d1, d2⟩ := Dc.dig_iff.1 hd.1
   rw [Lib.parseIntB_plain 64 c r (by omega) (by omega), key _ hb]
   unfold Lib.signlessC Dc.sg
   simp
   omega
theorem int_txt (n : Bool) (v : Nat) : Dc.txt n (Dc.digs v) 0 = if n then 45 :: Dc.digs v else Dc.digs v := by
 have h := Dc.digs_pos v
 have e : Dc.wide (Dc.digs v) 0 = Dc.digs v := by unfold Dc.wide; rw [show 0 + 1 - (Dc.digs v).length = 0 by omega]; rfl
 unfold Dc.txt Dc.dotted
 rw [if_pos rfl, e]
theorem trunc_text {T : Int} (h : T.natAbs < 10 ^ 75) : ∃ t : ByteArray, textR (Dc.trunc T).1 (str (Dc.digs (Dc.trunc T).2.1)) ((Dc.trunc T).2.2 : Int) = (t, 0) /\ t.size <= 1000000 /\ bts t = if (Dc.trunc T).1 then 45 :: Dc.digs (Dc.trunc T).2.1 else Dc.digs (Dc.trunc T).2.1 := by
 obtain ⟨k1, _⟩ := Dc.trunc_ok h
 have hl : (Dc.digs (Dc.trunc T).2.1).length <= 60 := k1.1
 refine ⟨str (if (Dc.trunc T).1 then 45 :: Dc.digs (Dc.trunc T).2.1 else Dc.digs (Dc.trunc T).2.1), ?_, ?_, ?_⟩
 ·unfold textR
  rw [if_pos (ok_okB k1), bts_digs, <- int_txt]; rfl
 ·rw [str_size]
  split
  ·rw [List.length_cons]; omega
  ·omega
 ·refine bts_str _ fun b hb => ?_
  have hd : ∀ b ∈ Dc.digs (Dc.trunc T).2.1, b < 256 := fun b hb => by
   have := (Dc.dig_iff.1 (List.all_eq_true.1 (Dc.digs_dig _) b hb)).2; omega
  split at hb
  ·rcases List.mem_cons.1 hb with rfl | hb
   ·decide
   ·exact hd b hb
  ·exact hd b hb
structure Sec (n : Bool) (s : ByteArray) (S : Int) (T : Int) : Prop where
 ok : okB n s S = true
 eq : Dc.at_ 60 (rawD n s S) = T
 small : Small T
theorem Sec.abs {n : Bool} {s : ByteArray} {S T : Int} (h : Sec n s S T) : T.natAbs < 10 ^ 75 := by
 obtain ⟨h1, h2⟩ := h.small
 have e := Dc.parts T
 obtain ⟨b0, b1⟩ := Dc.emod_bd T
 have hU := Dc.U_pos
 have u1 : T / Dc.U * Dc.U <= 900000000000000 * Dc.U := Int.mul_le_mul_of_nonneg_right h2 (Int.le_of_lt hU)
 have u2 : -900000000000000 * Dc.U <= T / Dc.U * Dc.U := Int.mul_le_mul_of_nonneg_right h1 (Int.le_of_lt hU)
 have hUv : Dc.U = 1000000000000000000000000000000000000000000000000000000000000 := by decide
 generalize T / Dc.U = q at *
 generalize T % Dc.U = r at *
 have hq : ((10 : Nat) ^ 75) = 1000000000000000000000000000000000000000000000000000000000000000000000000000 := by decide
 rw [hq]
 rw [hUv] at u1 u2 b1 e
 have a1 : T < 1000000000000000000000000000000000000000000000000000000000000000000000000000 := by omega
 have a2 : -1000000000000000000000000000000000000000000000000000000000000000000000000000 < T := by omega
 clear u1 u2 e b0 b1 h1 h2 hU
 rcases Int.natAbs_eq T with h | h <;> omega
def spE (n : Bool) (s : ByteArray) (S T : Int) (t : ByteArray) : List Value := [.bool n, .string s, .int .i64 S] ++ decL (Dc.trunc T) ++ [.int .i64 0, .string t, .int .i64 0, .int .i64 (T.tdiv Dc.U)] ++ decL (Dc.frac (T.tmod Dc.U)) ++ [.int .i64 0] ++ resL (twoR Dc.addD (Dc.frac (T.tmod Dc.U)).1 (str (Dc.digs (Dc.frac (T.tmod Dc.U)).2.1)) ((Dc.frac (T.tmod Dc.U)).2.2 : Int) false ⟨#[49]⟩ 0)
def trSplit : Tree := (.node (.at 11) (.leaf (.agg [(.xi .i64 (.sub .i64 (.at 10) (.int 1))), (.xb (.at 15)), (.xs (.at 16)), (.xi .i64 (.at 17))])) (.leaf (.agg [(.xi .i64 (.at 10)), (.bool false), (.xs (.at 12)), (.xi .i64 (.at 13))])))
theorem split_at (n : Bool) (s : ByteArray) (S T M : Int) (t : ByteArray) (hT : Small T) : (trSplit.at (envE (.int .i64 M :: spE n s S T t))).den L0 (envE (.int .i64 M :: spE n s S T t)) = .agg (ptL T).toArray := by
 obtain ⟨t0, t1⟩ := hT
 obtain ⟨k1, k2, k3, k4⟩ := Dc.tmod_bd T
 have hn := Dc.split_neg T
 have e : trSplit.at (envE (.int .i64 M :: spE n s S T t)) = bif (Dc.frac (T.tmod Dc.U)).1 then .agg [(.xi .i64 (.sub .i64 (.at 10) (.int 1))), (.xb (.at 15)), (.xs (.at 16)), (.xi .i64 (.at 17))] else .agg [(.xi .i64 (.at 10)), (.bool false), (.xs (.at 12)), (.xi .i64 (.at 13))] := rfl
 rw [e, hn]
 by_cases h : T.tmod Dc.U < 0
 ·obtain ⟨p1, p2⟩ := k3 h
  have ha := two_some (f := Dc.addD) (a := Dc.frac (T.tmod Dc.U)) (b := (false, 1, 0)) (Dc.small_ok (Dc.lt_abs k1 k2)).1 Dc.one_ok (Dc.split_add h)
  rw [one_str] at ha
  rw [decide_eq_true h, cond_true]
  show Value.agg [.int .i64 (IntKind.i64.wrap (T.tdiv Dc.U - 1)), .bool (twoR Dc.addD _ _ _ _ _ _).n, .string (twoR Dc.addD _ _ _ _ _ _).s, .int .i64 (twoR Dc.addD _ _ _ _ _ _).S].toArray = _
  rw [w64 (by omega) (by omega)]
  unfold ptL decL
  rw [p1]
  change twoR Dc.addD _ _ _ false ⟨#[49]⟩ 0 = _ at ha
  rw [ha]
 ·obtain ⟨p1, p2⟩ := k4 (by omega)
  rw [decide_eq_false h, cond_false]
  rw [decide_eq_false h] at hn
  show Value.agg [.int .i64 (T.tdiv Dc.U), .bool false, .string (str (Dc.digs (Dc.frac (T.tmod Dc.U)).2.1)), .int .i64 ((Dc.frac (T.tmod Dc.U)).2.2 : Int)].toArray = _
  unfold ptL decL
  rw [p1, p2, hn]
def spC : List CallX := [⟨32, [it 1], [], one⟩, ⟨88, [deV 1, one, it 0], [], .tup [deV 4, xi 7]⟩, ⟨65, [deV 4], [], .tup [xs 8, xi 9]⟩, ⟨89, [xs 8, it 10, it 64], [], .tup [xi 10, .nili]⟩, ⟨87, [deV 1, deV 4], [], .tup [deV 11, xi 14]⟩, ⟨86, [deV 11, one], [], .tup [deV 15, xi 18]⟩]
theorem run_split : chk (runTr Tryz.prog nG (fun _ => none) gd moT spC 100 40 [deV 1] h0) trSplit [] = true := by decide +kernel
theorem bytes_below {w w' : World} (h : w' = w \/ ∃ t, w' = Lib.bytesWorld w 5 t) : Below w.heap.size w w' := by
 rcases h with rfl | ⟨t, rfl⟩
 ·exact Below.refl _ _
 ·exact Lib.bytesWorld_below _ _ _
theorem div_is {n : Bool} {s : ByteArray} {S T : Int} (h : Sec n s S T) : divR n s S false ⟨#[49]⟩ 0 0 = ⟨(Dc.trunc T).1, str (Dc.digs (Dc.trunc T).2.1), ((Dc.trunc T).2.2 : Int), 0⟩ := by
 have k := okB_ok h.ok
 have h1 : okB false ⟨#[49]⟩ 0 = true := by decide
 have ha := h.abs
 unfold divR
 rw [if_pos ⟨h.ok, h1, by decide, by decide, by decide⟩]
 rw [show rawD false ⟨#[49]⟩ 0 = (false, 1, 0) from rfl, show (0 : Int).toNat = 0 from rfl, Dc.split_div k.can (by rw [h.eq]; exact ha), h.eq]
 rfl
theorem sub_is {n : Bool} {s : ByteArray} {S T : Int} (h : Sec n s S T) : twoR Dc.subD n s S (Dc.trunc T).1 (str (Dc.digs (Dc.trunc T).2.1)) ((Dc.trunc T).2.2 : Int) = ⟨(Dc.frac (T.tmod Dc.U)).1, str (Dc.digs (Dc.frac (T.tmod Dc.U)).2.1), ((Dc.frac (T.tmod Dc.U)).2.2 : Int), 0⟩ := by
 have k := okB_ok h.ok
 have ha := h.abs
 have hs := Dc.split_sub k.can (by rw [h.eq]; exact ha)
 rw [h.eq] at hs
 rw [two_yes h.ok (ok_okB (Dc.trunc_ok ha).1), raw_of, hs]
 rfl
theorem sg_trunc (T : Int) : Dc.sg (Dc.trunc T).1 (Dc.trunc T).2.1 = T.tdiv Dc.U := by
 unfold Dc.sg Dc.trunc
 by_cases h : T.tdiv Dc.U < 0
 ·simp only [decide_eq_true h, if_true]; omega
 ·simp only [decide_eq_false h, Bool.false_eq_true, if_false]; omega
theorem trunc_small {T : Int} (h : Small T) : (Dc.trunc T).2.1 <= 1000000000000000000 := by
 obtain ⟨t0, t1⟩ := h
 obtain ⟨k1, k2, k3, k4⟩ := Dc.tmod_bd T
 show (T.tdiv Dc.U).natAbs <= _
 by_cases h : T.tmod Dc.U < 0
 ·have := (k3 h).1; omega
 ·have := (k4 (by omega)).1; omega
theorem psplit_is (n : Bool) (s : ByteArray) (S T : Int) (hS : Sec n s S T) (w : World) (M : Int) (hV : Vars M w) : Calls Tryz.prog 40 #[.agg #[.bool n, .string s, .int .i64 S]] w fun e w' => e = .returned (.agg (ptL T).toArray) /\ Below w.heap.size w w' := by
 obtain ⟨t, e1, e2, e3⟩ := trunc_text hS.abs
 have k := okB_ok hS.ok
 have ks : s.size <= 1000000 := by have := k.size; omega
 obtain ⟨q1, q2, _⟩ := Dc.tmod_bd T
 have hc : AllX Tryz.prog (envE (.int .i64 M :: spE n s S T t)) (Vars M) spC :=
  ⟨⟨rfl, fk, fun _ L w hV => pOf_any 1 (by decide) (by decide) w hV.pow⟩,
   ⟨rfl, fk, fun _ L w hV => pdiv_is n s S false ⟨#[49]⟩ 0 0 ks (by decide) _ (div_is hS) w hV⟩,
   ⟨rfl, fk, fun _ L w hV => ptext_is (Dc.trunc T).1 (str (Dc.digs (Dc.trunc T).2.1)) ((Dc.trunc T).2.2 : Int) (digs_size60 (Dc.trunc_ok hS.abs).1) t 0 e1 w⟩,
   ⟨rfl, fk, fun _ L w hV => (Tryz.strconv_ParseInt_10_at64_ok t (by omega) (T.tdiv Dc.U) (by rw [parse_int e3 (trunc_small hS.small), sg_trunc]) w).mono fun e w' ⟨h1, h2⟩ => ⟨h1, bytes_below h2⟩⟩,
   ⟨rfl, fk, fun _ L w hV => psub_is n s S (Dc.trunc T).1 (str (Dc.digs (Dc.trunc T).2.1)) ((Dc.trunc T).2.2 : Int) ks (digs_size60 (Dc.trunc_ok hS.abs).1) _ (sub_is hS) w hV⟩,
   ⟨rfl, fk, fun _ L w hV => padd_is (Dc.frac (T.tmod Dc.U)).1 (str (Dc.digs (Dc.frac (T.tmod Dc.U)).2.1)) ((Dc.frac (T.tmod Dc.U)).2.2 : Int) false ⟨#[49]⟩ 0 (digs_size60 (Dc.small_ok (Dc.lt_abs q1 q2)).1) (by decide) _ rfl w hV⟩, trivial⟩
 have h := tree_run (env := spE n s S T t) run_split hc rfl trivial rfl hV
 rw [split_at n s S T M t hS.small] at h
 exact h
end Go.Proofs.YtckodhldimhbfaaGreatDoor
namespace Go.Proofs.YtckodhldimhbfaaGreatDoor
open Go Go.RowKit

theorem pbef_b (y b : Int) (hb : Mo.bef y = b) (h0 : -40000 <= y) (h1 : y <= 40000) (w : World) (M : Int) (hV : Vars M w) : Calls Tryz.prog 109 #[.int .i64 y] w fun e w' => e = .returned (.int .i64 b) /\ Below w.heap.size w w' := by
 rw [<- hb]; exact pbefore_is y h0 h1 w M hV
theorem plen_b (y m b : Int) (hb : Mo.dim y m = b) (h1 : 1 <= m) (h2 : m <= 12) (w : World) (M : Int) (hV : Vars M w) : Calls Tryz.prog 35 #[.int .i64 y, .int .i64 m] w fun e w' => e = .returned (.int .i64 b) /\ Below w.heap.size w w' := by
 rw [<- hb]; exact plength_is y m h1 h2 w M hV
theorem pdate_is (n y m d : Int) (h : Mo.IsDate n y m d) (n0 : -4000000 <= n) (n1 : n <= 4000000) (w : World) (M : Int) (hV : Vars M w) : Calls Tryz.prog 85 #[.int .i64 n] w fun e w' => e = .returned (.tuple #[.int .i64 y, .int .i64 m, .int .i64 d]) /\ Below w.heap.size w w' := by
 obtain ⟨s0, s1, s2⟩ := Mo.start_le n0 n1
 obtain ⟨y0, y1⟩ := Mo.date_year h
 have HV := Lib.hid hV
 have HD := Lib.hid h
 clear h hV
 obtain ⟨q366, hq366⟩ : ∃ q, n.tdiv 366 = q := ⟨_, rfl⟩
 obtain ⟨q365, hq365⟩ : ∃ q, n.tdiv 365 = q := ⟨_, rfl⟩
 rw [hq366, hq365] at s0 s1 s2
 obtain ⟨z0, hz0⟩ : ∃ z0, (if q365 < q366 then q365 else q366) - 2 = z0 := ⟨_, rfl⟩
 rw [hz0] at s0 s1 s2
 have hyb : z0 < y /\ y <= 12000 := by
  constructor
  ·rcases Int.lt_or_le z0 y with c | c
   ·exact c
   ·have := Mo.bef_mono c; omega
  ·rcases Int.lt_or_le 12000 y with c | c
   ·have := Mo.bef_mono (a := 12000) (b := y - 1) (by omega)
    have e : Mo.bef 12000 = 4382910 := by decide
    omega
   ·exact c
 obtain ⟨yb0, yb1⟩ := hyb
 have Y0 := Lib.hid y0
 have Y1 := Lib.hid y1
 have q1 : -11000 <= q366 /\ q366 <= 11000 /\ -11000 <= q365 /\ q365 <= 11000 := by
  rcases (by omega : 0 <= n \/ n < 0) with hn | hn
  ·rw [Int.tdiv_eq_ediv_of_nonneg hn] at hq366 hq365; omega
  ·rw [Mo.tdiv_neg' hn, Int.tdiv_eq_ediv_of_nonneg (by omega)] at hq366 hq365; omega
 obtain ⟨qa, qb, qc, qd⟩ := q1
 have w1 : IntKind.i64.wrap q366 = q366 := w64 (by omega) (by omega)
 have w2 : IntKind.i64.wrap q365 = q365 := w64 (by omega) (by omega)
 have w3 : min q366 q365 - 2 = z0 := by rw [<- hz0, Int.min_def]; split <;> split <;> omega
 clear s0 y0 y1 hz0
 go_enter Tryz.func85, Tryz.ntmps85
 go_wp2
 go_loopw [2] (fun v wr => ∃ z : Int, v = .int .i64 z /\ z0 <= z /\ z <= y /\ Below w.heap.size w wr) (fun v _ => (y - intOf v).toNat)
 case atStart => exact ⟨z0, rfl, Int.le_refl _, by omega, Below.refl _ _⟩
 case round =>
  obtain ⟨z, rfl, z1, z2, hB⟩ := hrel
  obtain ⟨b, hb⟩ : ∃ b, Mo.bef z = b := ⟨_, rfl⟩
  have C1 := Lib.hid (fun w hV => pbef_b z b hb (by omega) (by omega) w M hV)
  by_cases hzy : z < y
  ·have hbn : b <= n := by
    have := Mo.bef_mono (a := z) (b := y - 1) (by omega)
    have := Y0.out
    omega
   clear hb
   go_wp2_with (go_at_call 109; refine (C1.out _ (HV.out.next hB)).mono ?_; rintro e w3 ⟨rfl, hb3⟩; replace hB := hB.trans (hb3.mono hB.size); clear hb3)
   go_roundw
   case rel => exact ⟨z + 1, by simp, by omega, by omega, hB⟩
   case measure => simp [intOf]; omega
  ·obtain rfl : z = y := by omega
   have hbn : ¬ b <= n := by have := Y1.out; omega
   clear hb
   obtain ⟨b1, hb1⟩ : ∃ b1, Mo.bef (z - 1) = b1 := ⟨_, rfl⟩
   have C2 := Lib.hid (fun w hV => pbef_b (z - 1) b1 hb1 (by omega) (by omega) w M hV)
   have hr : 0 <= n - b1 /\ n - b1 <= 366 := by
    have e1 := Y0.out
    have e2 := Y1.out
    have e3 := Mo.bef_succ z
    have e4 := Mo.lg_01 z
    omega
   obtain ⟨r0, r1⟩ := hr
   have HB1 := Lib.hid hb1
   have tok1 : True := trivial
   clear hb1
   go_wp2_with (first
    | (go_at_call 109; have _t := tok1; refine (C1.out _ (HV.out.next hB)).mono ?_; rintro e w3 ⟨rfl, hb3⟩; replace hB := hB.trans (hb3.mono hB.size); clear hb3 tok1 _t)
    | (go_at_call 109; refine (C2.out _ (HV.out.next hB)).mono ?_; rintro e w3 ⟨rfl, hb3⟩; replace hB := hB.trans (hb3.mono hB.size); clear hb3))
   clear C1 C2 hbn
   obtain ⟨wo, rfl⟩ : ∃ wo : World, wo = wr := ⟨_, rfl⟩
   go_loopw [0, 3] (fun a k wr => ∃ i u : Int, k = .int .i64 i /\ a = .int .i64 u /\ 1 <= i /\ i <= m /\ 0 <= u /\ u <= 366 /\ Hid (u = n - b1 - Mo.cum z i) /\ Below w.heap.size w wr) (fun _ k _ => (m - intOf k).toNat)
   case atStart => exact ⟨1, n - b1, rfl, by simp, Int.le_refl _, HD.out.m1, r0, r1, Lib.hid (by rw [Mo.cum_one]; omega), hB⟩
   case round =>
    clear hB
    obtain ⟨i, u, rfl, rfl, i1, i2, u1, u2, hu, hB⟩ := hrel
    obtain ⟨l, hl⟩ : ∃ l, Mo.dim z i = l := ⟨_, rfl⟩
    have him : m <= 12 := HD.out.m2
    have C3 := Lib.hid (fun w hV => plen_b z i l hl (by omega) (by omega) w M hV)
    have hlb := Mo.dim_bd z i
    rw [hl] at hlb
    obtain ⟨l1, l2⟩ := hlb
    by_cases hi : i < m
    ·have hge : l <= u := by
      have e1 := hu.out
      have e2 := HD.out.eq
      have e3 := Mo.cum_mono z i m (by omega) hi (by omega)
      have e4 := HD.out.d1
      have e5 := HB1.out
      unfold Mo.dayN at e2
      omega
     have hcs := Lib.hid (Mo.cum_succ z i i1 (by omega))
     have HL := Lib.hid hl
     clear hl
     have tok1 : True := trivial
     go_wp2_with (first
      | (go_at_call 35; have _t := tok1; refine (C3.out _ (HV.out.next hB)).mono ?_; rintro e w3 ⟨rfl, hb3⟩; replace hB := hB.trans (hb3.mono hB.size); clear hb3 tok1 _t)
      | (go_at_call 35; refine (C3.out _ (HV.out.next hB)).mono ?_; rintro e w3 ⟨rfl, hb3⟩; replace hB := hB.trans (hb3.mono hB.size); clear hb3))
     go_roundw
     case rel => exact ⟨i + 1, u - l, by simp, by simp, by omega, by omega, by omega, by omega, Lib.hid (by rw [hcs.out, hu.out, HL.out]; omega), hB⟩
     case measure => simp [intOf]; omega
    ·obtain rfl : i = m := by omega
     have hlt : ¬ l <= u := by
      have e1 := hu.out
      have e2 := HD.out.eq
      have e4 := HD.out.d2
      have e5 := HB1.out
      unfold Mo.dayN at e2
      omega
     have hd : u + 1 = d := by
      have e1 := hu.out
      have e2 := HD.out.eq
      have e5 := HB1.out
      unfold Mo.dayN at e2
      omega
     have HDD := Lib.hid hd
     clear hl hd
     go_wp2_with (go_at_call 35; refine (C3.out _ (HV.out.next hB)).mono ?_; rintro e w3 ⟨rfl, hb3⟩; replace hB := hB.trans (hb3.mono hB.size); clear hb3)
     go_ret3
     exact ⟨by rw [<- HDD.out]; rfl, hB⟩
open Go.Ex

theorem run_long : chk (runTr Tryz.prog nG (fun _ => none) gd moT [] 100 91 [xi 1] h0) (leapT (.bool true) (.bool false)) [] = true := by decide +kernel
theorem rlong_is (y : Int) (b : Bool) (hb : decide (Mo.lg y = 1) = b) (w : World) (M : Int) (hV : Vars M w) : Calls Tryz.prog 91 #[.int .i64 y] w fun e w' => e = .returned (.bool b) /\ Below w.heap.size w w' := by
 have h := tree_run (env := [.int .i64 y]) run_long trivial rfl trivial rfl hV
 rw [leap_at rfl] at h
 have e : ((if Mo.lg y = 1 then V.bool true else V.bool false) : V).den L0 (envE [.int .i64 M, .int .i64 y]) = .bool b := by
  rw [<- hb]; split
  ·rename_i h; rw [decide_eq_true h]; rfl
  ·rename_i h; rw [decide_eq_false h]; rfl
 rw [e] at h
 exact h
theorem rlen_b (y m b : Int) (hb : Mo.dim y m = b) (h1 : 1 <= m) (h2 : m <= 12) (w : World) (M : Int) (hV : Vars M w) : Calls Tryz.prog 45 #[.int .i64 y, .int .i64 m] w fun e w' => e = .returned (.int .i64 b) /\ Below w.heap.size w w' := by
 rw [<- hb]; exact rlength_is y m h1 h2 w M hV
theorem bef_bd {y : Int} (h0 : -31000 <= y) (h1 : y <= 31000) : -20000000 <= Mo.bef y /\ Mo.bef y <= 20000000 := by unfold Mo.bef; omega
theorem rdays_is (y m d D : Int) (hD : Mo.dayN y m d = D) (h0 : -30000 <= y) (h1 : y <= 30000) (m1 : 1 <= m) (m2 : m <= 12) (d0 : -1000 <= d) (d1 : d <= 1000) (w : World) (M : Int) (hV : Vars M w) : Calls Tryz.prog 71 #[.int .i64 y, .int .i64 m, .int .i64 d] w fun e w' => e = .returned (.int .i64 D) /\ Below w.heap.size w w' := by
 have HV := Lib.hid hV
 have HD := Lib.hid hD
 clear hD hV
 go_enter Tryz.func71, Tryz.ntmps71
 go_wp2
 go_loopw [7, 8] (fun a k wr => ∃ i u : Int, k = .int .i64 i /\ a = .int .i64 u /\ 1 <= i /\ i <= m /\ 0 <= u /\ u <= 366 /\ Hid (u = Mo.cum y i) /\ Below w.heap.size w wr) (fun _ k _ => (m - intOf k).toNat)
 case atStart => exact ⟨1, 0, rfl, rfl, Int.le_refl _, m1, Int.le_refl _, by decide, Lib.hid (Mo.cum_one y).symm, Below.refl _ _⟩
 case round =>
  obtain ⟨i, u, rfl, rfl, i1, i2, u1, u2, hu, hB⟩ := hrel
  by_cases hi : i < m
  ·obtain ⟨l, hl⟩ : ∃ l, Mo.dim y i = l := ⟨_, rfl⟩
   have C3 := Lib.hid (fun w hV => rlen_b y i l hl (by omega) (by omega) w M hV)
   have hlb := Mo.dim_bd y i
   rw [hl] at hlb
   obtain ⟨l1, l2⟩ := hlb
   have hcs := Lib.hid (Mo.cum_succ y i i1 (by omega))
   have hcl := Lib.hid (Mo.cum_lo y (i + 1) (by omega) (by omega))
   have HL := Lib.hid hl
   clear hl
   go_wp2_with (go_at_call 45; refine (C3.out _ (HV.out.next hB)).mono ?_; rintro e w3 ⟨rfl, hb3⟩; replace hB := hB.trans (hb3.mono hB.size); clear hb3)
   go_roundw
   case rel =>
    have hv : u + l = Mo.cum y (i + 1) := by rw [hcs.out, hu.out, HL.out]
    exact ⟨i + 1, u + l, by simp, by simp, by omega, by omega, by rw [hv]; exact hcl.out.1, by rw [hv]; exact hcl.out.2, Lib.hid hv, hB⟩
   case measure => simp [intOf]; omega
  ·obtain rfl : i = m := by omega
   go_wp2
   clear hi i2
   obtain ⟨wo, rfl⟩ : ∃ wo : World, wo = wr := ⟨_, rfl⟩
   go_loopw [0, 7] (fun q a wr => ∃ z v : Int, q = .int .i64 z /\ a = .int .i64 v /\ -30000 <= z /\ z <= 30000 /\ -50000000 <= v /\ v <= 50000000 /\ Hid (v = Mo.cum y i + Mo.bef (y - 1) - Mo.bef (z - 1)) /\ Below w.heap.size w wr) (fun q _ _ => (intOf q + 30000).toNat)
   case atStart => exact ⟨y, u, rfl, rfl, h0, h1, by omega, by omega, Lib.hid (by rw [hu.out]; omega), hB⟩
   case round =>
    clear hB
    obtain ⟨z, v, rfl, rfl, z1, z2, v1, v2, hv, hB⟩ := hrel
    by_cases hz : 400 < z
    ·have hvn : v + 146097 = Mo.cum y i + Mo.bef (y - 1) - Mo.bef (z - 400 - 1) := by
      have e := Mo.bef_400 (z - 400 - 1)
      rw [show z - 400 - 1 + 400 = z - 1 by omega] at e
      rw [hv.out]; omega
     have hvb : v + 146097 <= 50000000 := by
      have e1 := Mo.cum_lo y i (by omega) (by omega)
      have e2 := bef_bd (y := y - 1) (by omega) (by omega)
      have e3 := bef_bd (y := z - 400 - 1) (by omega) (by omega)
      omega
     have HVN := Lib.hid hvn
     clear hvn
     go_wp2
     go_roundw
     case rel => exact ⟨z - 400, v + 146097, by simp, by simp, by omega, by omega, by omega, by omega, HVN, hB⟩
     case measure => simp [intOf]; omega
    ·go_wp2
     obtain ⟨wo2, rfl⟩ : ∃ wo2 : World, wo2 = wr := ⟨_, rfl⟩
     go_loopw [0, 7] (fun q a wr => ∃ z v : Int, q = .int .i64 z /\ a = .int .i64 v /\ -30000 <= z /\ z <= 400 /\ -50000000 <= v /\ v <= 50000000 /\ Hid (v = Mo.cum y i + Mo.bef (y - 1) - Mo.bef (z - 1)) /\ Below w.heap.size w wr) (fun q _ _ => (400 - intOf q).toNat)
     case atStart => exact ⟨z, v, rfl, rfl, z1, by omega, v1, v2, hv, hB⟩
     case round =>
      clear hv hz z1 z2 v1 v2 hB
      obtain ⟨z, v, rfl, rfl, z1, z2, v1, v2, hv, hB⟩ := hrel
      by_cases hz : z < 1
      ·have hvn : v - 146097 = Mo.cum y i + Mo.bef (y - 1) - Mo.bef (z + 400 - 1) := by
        have e := Mo.bef_400 (z - 1)
        rw [show z - 1 + 400 = z + 400 - 1 by omega] at e
        rw [hv.out]; omega
       have hvb : -50000000 <= v - 146097 := by
        have e1 := Mo.cum_lo y i (by omega) (by omega)
        have e2 := bef_bd (y := y - 1) (by omega) (by omega)
        have e3 := bef_bd (y := z + 400 - 1) (by omega) (by omega)
        omega
       have HVN := Lib.hid hvn
       clear hvn
       go_wp2
       go_roundw
       case rel => exact ⟨z + 400, v - 146097, by simp, by simp, by omega, by omega, by omega, by omega, HVN, hB⟩
       case measure => simp [intOf]; omega
      ·go_wp2
       obtain ⟨wo3, rfl⟩ : ∃ wo3 : World, wo3 = wr := ⟨_, rfl⟩
       go_loopw [7, 9] (fun a k wr => ∃ j c : Int, k = .int .i64 j /\ a = .int .i64 c /\ 1 <= j /\ j <= z /\ -80000000 <= c /\ c <= 80000000 /\ Hid (c = v + Mo.bef (j - 1)) /\ Below w.heap.size w wr) (fun _ k _ => (z - intOf k).toNat)
       case atStart => exact ⟨1, v, rfl, rfl, Int.le_refl _, by omega, by omega, by omega, Lib.hid (by rw [show (1 : Int) - 1 = 0 from rfl, show Mo.bef 0 = 0 from rfl]; omega), hB⟩
       case round =>
        clear hB
        obtain ⟨j, c, rfl, rfl, j1, j2, c1, c2, hc, hB⟩ := hrel
        by_cases hj : j < z
        ·obtain ⟨b, hb⟩ : ∃ b, decide (Mo.lg j = 1) = b := ⟨_, rfl⟩
         have C4 := Lib.hid (fun w hV => rlong_is j b hb w M hV)
         have hcb : c + 366 <= 80000000 := by
          have e1 := bef_bd (y := j - 1) (by omega) (by omega)
          have := hc.out
          omega
         have hlg : Hid (v + Mo.bef (j + 1 - 1) = c + 365 + (if b = true then 1 else 0)) := Lib.hid (by
          have e := Mo.bef_succ j
          have e2 := Mo.lg_01 j
          rw [show j + 1 - 1 = j by omega, e, hc.out, <- hb]
          by_cases hq : Mo.lg j = 1
          ·rw [decide_eq_true hq, if_pos rfl]; omega
          ·rw [decide_eq_false hq, if_neg (by decide)]; omega)
         clear hb
         cases b with
         | true =>
          go_wp2_with (go_at_call 91; refine (C4.out _ (HV.out.next hB)).mono ?_; rintro e w3 ⟨rfl, hb3⟩; replace hB := hB.trans (hb3.mono hB.size); clear hb3)
          go_roundw
          case rel => exact ⟨j + 1, c + 365 + 1, by simp, by simp, by omega, by omega, by omega, by omega, Lib.hid (by rw [hlg.out]; rfl), hB⟩
          case measure => simp [intOf]; omega
         | false =>
          go_wp2_with (go_at_call 91; refine (C4.out _ (HV.out.next hB)).mono ?_; rintro e w3 ⟨rfl, hb3⟩; replace hB := hB.trans (hb3.mono hB.size); clear hb3)
          go_roundw
          case rel => exact ⟨j + 1, c + 365, by simp, by simp, by omega, by omega, by omega, by omega, Lib.hid (by rw [hlg.out, if_neg (by decide)]; omega), hB⟩
          case measure => simp [intOf]; omega
        ·obtain rfl : j = z := by omega
         have hres : c + d - 1 = D := by
          rw [<- HD.out, hc.out, hv.out]
          unfold Mo.dayN
          omega
         have HR := Lib.hid hres
         clear hres
         go_wp2
         go_ret
         exact ⟨by rw [<- HR.out]; rfl, hB⟩

theorem day11 (y : Int) : Mo.dayN y 1 1 = Mo.bef (y - 1) := by unfold Mo.dayN; rw [Mo.cum_one]; omega
theorem rdate_is (n y m d : Int) (h : Mo.IsDate n y m d) (n0 : -4000000 <= n) (n1 : n <= 4000000) (w : World) (M : Int) (hV : Vars M w) : Calls Tryz.prog 93 #[.int .i64 n] w fun e w' => e = .returned (.tuple #[.int .i64 y, .int .i64 m, .int .i64 d]) /\ Below w.heap.size w w' := by
 obtain ⟨y0, y1⟩ := Mo.date_year h
 have hyb : -12000 <= y /\ y <= 12000 := by
  constructor
  ·rcases Int.lt_or_le y (-12000) with c | c
   ·have := Mo.bef_mono (a := y) (b := -12000) (by omega)
    have e : Mo.bef (-12000) = -4382910 := by decide
    omega
   ·exact c
  ·rcases Int.lt_or_le 12000 y with c | c
   ·have := Mo.bef_mono (a := 12000) (b := y - 1) (by omega)
    have e : Mo.bef 12000 = 4382910 := by decide
    omega
   ·exact c
 obtain ⟨yb0, yb1⟩ := hyb
 have HV := Lib.hid hV
 have HD := Lib.hid h
 have Y0 := Lib.hid y0
 have Y1 := Lib.hid y1
 clear h hV y0 y1
 go_enter Tryz.func93, Tryz.ntmps93
 go_wp2
 go_loopw [0, 5] (fun a q wr => ∃ z v : Int, q = .int .i64 z /\ a = .int .i64 v /\ -4000000 <= v /\ v <= 4000000 /\ 1 <= z /\ z <= 13000 /\ Hid (v = n - Mo.bef (z - 1)) /\ Below w.heap.size w wr) (fun a _ _ => (intOf a).toNat)
 case atStart => exact ⟨1, n, rfl, rfl, n0, n1, Int.le_refl _, by decide, Lib.hid (by rw [show (1 : Int) - 1 = 0 from rfl, show Mo.bef 0 = 0 from rfl]; omega), Below.refl _ _⟩
 case round =>
  obtain ⟨z, v, rfl, rfl, v1, v2, z1, z2, hv, hB⟩ := hrel
  by_cases hz : 146097 <= v
  ·have hvn : v - 146097 = n - Mo.bef (z + 400 - 1) := by
    have e := Mo.bef_400 (z - 1)
    rw [show z - 1 + 400 = z + 400 - 1 by omega] at e
    rw [hv.out]; omega
   have hzb : z + 400 <= 13000 := by
    rcases Int.lt_or_le z y with c | c
    ·omega
    ·have := Mo.bef_mono (a := y) (b := z) c
     have e1 := Y1.out
     have e2 := hv.out
     have e3 := Mo.bef_succ z
     have e4 := Mo.lg_01 z
     omega
   have HVN := Lib.hid hvn
   clear hvn
   go_wp2
   go_roundw
   case rel => exact ⟨z + 400, v - 146097, by simp, by simp, by omega, by omega, by omega, by omega, HVN, hB⟩
   case measure => simp [intOf]; omega
  ·go_wp2
   obtain ⟨wo, rfl⟩ : ∃ wo : World, wo = wr := ⟨_, rfl⟩
   go_loopw [0, 5] (fun a q wr => ∃ z v : Int, q = .int .i64 z /\ a = .int .i64 v /\ -4000000 <= v /\ v < 146097 /\ -13000 <= z /\ z <= 13000 /\ Hid (v = n - Mo.bef (z - 1)) /\ Below w.heap.size w wr) (fun a _ _ => (-intOf a).toNat)
   case atStart => exact ⟨z, v, rfl, rfl, v1, by omega, by omega, z2, hv, hB⟩
   case round =>
    clear hv hz v1 v2 z1 z2 hB
    obtain ⟨z, v, rfl, rfl, v1, v2, z1, z2, hv, hB⟩ := hrel
    by_cases hz : v < 0
    ·have hvn : v + 146097 = n - Mo.bef (z - 400 - 1) := by
      have e := Mo.bef_400 (z - 400 - 1)
      rw [show z - 400 - 1 + 400 = z - 1 by omega] at e
      rw [hv.out]; omega
     have hzb : -13000 <= z - 400 := by
      rcases Int.lt_or_le y z with c | c
      ·omega
      ·have := Mo.bef_mono (a := z - 1) (b := y - 1) (by omega)
       have e1 := Y0.out
       have e2 := hv.out
       omega
     have HVN := Lib.hid hvn
     clear hvn
     go_wp2
     go_roundw
     case rel => exact ⟨z - 400, v + 146097, by simp, by simp, by omega, by omega, by omega, by omega, HVN, hB⟩
     case measure => simp [intOf]; omega
    ·have hzy : z <= y := by
      rcases Int.lt_or_le y z with c | c
      ·have := Mo.bef_mono (a := y) (b := z - 1) (by omega)
       have e1 := Y1.out
       have e2 := hv.out
       omega
      ·exact c
     go_wp2
     obtain ⟨wo2, rfl⟩ : ∃ wo2 : World, wo2 = wr := ⟨_, rfl⟩
     go_loopw [0, 5] (fun a q wr => ∃ z v : Int, q = .int .i64 z /\ a = .int .i64 v /\ 0 <= v /\ v <= 146097 /\ -13000 <= z /\ z <= y /\ Hid (v = n - Mo.bef (z - 1)) /\ Below w.heap.size w wr) (fun _ q _ => (y - intOf q).toNat)
     case atStart => exact ⟨z, v, rfl, rfl, by omega, by omega, z1, hzy, hv, hB⟩
     case round =>
      clear hv hz v1 v2 z1 z2 hB hzy
      obtain ⟨z, v, rfl, rfl, v1, v2, z1, z2, hv, hB⟩ := hrel
      obtain ⟨b, hb⟩ : ∃ b, Mo.bef (z - 1) = b := ⟨_, rfl⟩
      obtain ⟨c, hc⟩ : ∃ c, Mo.bef z = c := ⟨_, rfl⟩
      have C1 := Lib.hid (fun w hV => rdays_is (z + 1) 1 1 c (by rw [day11, show z + 1 - 1 = z by omega, hc]) (by omega) (by omega) (by decide) (by decide) (by decide) (by decide) w M hV)
      have C2 := Lib.hid (fun w hV => rdays_is z 1 1 b (by rw [day11, hb]) (by omega) (by omega) (by decide) (by decide) (by decide) (by decide) w M hV)
      have hcb : 365 <= c - b /\ c - b <= 366 := by
       have e3 := Mo.bef_succ z
       have e4 := Mo.lg_01 z
       omega
      obtain ⟨cb0, cb1⟩ := hcb
      have hbb := bef_bd (y := z - 1) (by omega) (by omega)
      have hcc := bef_bd (y := z) (by omega) (by omega)
      rw [hb] at hbb
      rw [hc] at hcc
      obtain ⟨bb0, bb1⟩ := hbb
      obtain ⟨cc0, cc1⟩ := hcc
      have tok1 : True := trivial
      by_cases hzy : z < y
      ·have hge : c - b <= v := by
        have := Mo.bef_mono (a := z) (b := y - 1) (by omega)
        have e1 := Y0.out
        have e2 := hv.out
        omega
       have hvn : v - (c - b) = n - Mo.bef (z + 1 - 1) := by
        rw [show z + 1 - 1 = z by omega, hc, hv.out, hb]; omega
       have HVN := Lib.hid hvn
       clear hvn hb hc
       have tok2 : True := trivial
       have tok3 : True := trivial
       go_wp2_with (first
        | (go_at_call 71; have _t := tok1; refine (C1.out _ (HV.out.next hB)).mono ?_; rintro e w3 ⟨rfl, hb3⟩; replace hB := hB.trans (hb3.mono hB.size); clear hb3 tok1 _t)
        | (go_at_call 71; have _t := tok2; refine (C2.out _ (HV.out.next hB)).mono ?_; rintro e w3 ⟨rfl, hb3⟩; replace hB := hB.trans (hb3.mono hB.size); clear hb3 tok2 _t)
        | (go_at_call 71; have _t := tok3; refine (C1.out _ (HV.out.next hB)).mono ?_; rintro e w3 ⟨rfl, hb3⟩; replace hB := hB.trans (hb3.mono hB.size); clear hb3 tok3 _t)
        | (go_at_call 71; refine (C2.out _ (HV.out.next hB)).mono ?_; rintro e w3 ⟨rfl, hb3⟩; replace hB := hB.trans (hb3.mono hB.size); clear hb3))
       go_roundw
       case rel => exact ⟨z + 1, v - (c - b), by simp, by simp, by omega, by omega, by omega, by omega, HVN, hB⟩
       case measure => simp [intOf]; omega
      ·obtain rfl : z = y := by omega
       have hlt : ¬ c - b <= v := by
        have e1 := Y1.out
        have e2 := hv.out
        omega
       have hr1 : v <= 366 := by omega
       clear hb hc
       go_wp2_with (first
        | (go_at_call 71; have _t := tok1; refine (C1.out _ (HV.out.next hB)).mono ?_; rintro e w3 ⟨rfl, hb3⟩; replace hB := hB.trans (hb3.mono hB.size); clear hb3 tok1 _t)
        | (go_at_call 71; refine (C2.out _ (HV.out.next hB)).mono ?_; rintro e w3 ⟨rfl, hb3⟩; replace hB := hB.trans (hb3.mono hB.size); clear hb3))
       clear C1 C2 hlt
       obtain ⟨wo3, rfl⟩ : ∃ wo3 : World, wo3 = wr := ⟨_, rfl⟩
       go_loopw [0, 6] (fun a k wr => ∃ i u : Int, k = .int .i64 i /\ a = .int .i64 u /\ 1 <= i /\ i <= m /\ 0 <= u /\ u <= 366 /\ Hid (u = v - Mo.cum z i) /\ Below w.heap.size w wr) (fun _ k _ => (m - intOf k).toNat)
       case atStart => exact ⟨1, v, rfl, rfl, Int.le_refl _, HD.out.m1, v1, hr1, Lib.hid (by rw [Mo.cum_one]; omega), hB⟩
       case round =>
        clear hB
        obtain ⟨i, u, rfl, rfl, i1, i2, u1, u2, hu, hB⟩ := hrel
        obtain ⟨l, hl⟩ : ∃ l, Mo.dim z i = l := ⟨_, rfl⟩
        have him : m <= 12 := HD.out.m2
        have C3 := Lib.hid (fun w hV => rlen_b z i l hl (by omega) (by omega) w M hV)
        have hlb := Mo.dim_bd z i
        rw [hl] at hlb
        obtain ⟨l1, l2⟩ := hlb
        by_cases hi : i < m
        ·have hge : l <= u := by
          have e1 := hu.out
          have e2 := HD.out.eq
          have e3 := Mo.cum_mono z i m (by omega) hi (by omega)
          have e4 := HD.out.d1
          have e5 := hv.out
          unfold Mo.dayN at e2
          omega
         have hcs := Lib.hid (Mo.cum_succ z i i1 (by omega))
         have HL := Lib.hid hl
         clear hl
         have tok1 : True := trivial
         go_wp2_with (first
          | (go_at_call 45; have _t := tok1; refine (C3.out _ (HV.out.next hB)).mono ?_; rintro e w3 ⟨rfl, hb3⟩; replace hB := hB.trans (hb3.mono hB.size); clear hb3 tok1 _t)
          | (go_at_call 45; refine (C3.out _ (HV.out.next hB)).mono ?_; rintro e w3 ⟨rfl, hb3⟩; replace hB := hB.trans (hb3.mono hB.size); clear hb3))
         go_roundw
         case rel => exact ⟨i + 1, u - l, by simp, by simp, by omega, by omega, by omega, by omega, Lib.hid (by rw [hcs.out, hu.out, HL.out]; omega), hB⟩
         case measure => simp [intOf]; omega
        ·obtain rfl : i = m := by omega
         have hlt : ¬ l <= u := by
          have e1 := hu.out
          have e2 := HD.out.eq
          have e4 := HD.out.d2
          have e5 := hv.out
          unfold Mo.dayN at e2
          omega
         have hd : u + 1 = d := by
          have e1 := hu.out
          have e2 := HD.out.eq
          have e5 := hv.out
          unfold Mo.dayN at e2
          omega
         have HDD := Lib.hid hd
         clear hl hd
         go_wp2_with (go_at_call 45; refine (C3.out _ (HV.out.next hB)).mono ?_; rintro e w3 ⟨rfl, hb3⟩; replace hB := hB.trans (hb3.mono hB.size); clear hb3)
         go_ret3
         exact ⟨by rw [<- HDD.out]; rfl, hB⟩
end Go.Proofs.YtckodhldimhbfaaGreatDoor
