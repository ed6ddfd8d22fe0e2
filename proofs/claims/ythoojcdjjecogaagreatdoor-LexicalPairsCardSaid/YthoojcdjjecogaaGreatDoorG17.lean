/-
  Part 17 of the proof: what functions return, and plain facts (Mpoint Mplus Mdays Mrdays Mrdate). Conditions: each theorem names its own.
-/
import Derived.Test.YthoojcdjjecogaaGreatDoorG16
import Derived.Test.YthoojcdjjecogaaGreatDoorG13
set_option maxRecDepth 1000000
set_option maxHeartbeats 16000000
namespace Go.Proofs.YthoojcdjjecogaaGreatDoor
open Go Go.RowKit Go.Ex

theorem w64 {n : Int} (h0 : -9223372036854775808 <= n) (h1 : n <= 9223372036854775807) : IntKind.i64.wrap n = n := by
 rw [IntKind.wrap_i64]; omega
def befX : X := .add .i64 (.sub .i64 (.add .i64 (.mul .i64 (.int 365) (.at 1)) (.sub .i64 (.quo .i64 (.add .i64 (.at 1) (.int 40000)) (.int 4)) (.int 10000))) (.sub .i64 (.quo .i64 (.add .i64 (.at 1) (.int 40000)) (.int 100)) (.int 400))) (.sub .i64 (.quo .i64 (.add .i64 (.at 1) (.int 40000)) (.int 400)) (.int 100))
theorem run_before : chk (runTr Tryz.prog nG (fun _ => none) gd moT [] 100 151 [xi 1] h0) (.leaf (.xi .i64 befX)) [] = true := by decide +kernel
theorem bef_ev {E : Nat -> Value} {y : Int} (h : E 1 = .int .i64 y) (h0 : -40000 <= y) (h1 : y <= 40000) : befX.evI E = Mo.bef y := by
 have t4 := Mo.over4 h0
 have t100 := Mo.over100 h0
 have t400 := Mo.over400 h0
 simp only [befX, X.evI, h]
 rw [w64 (n := y + 40000) (by omega) (by omega)]
 generalize (y + 40000).tdiv 4 = a at *
 generalize (y + 40000).tdiv 100 = b at *
 generalize (y + 40000).tdiv 400 = c at *
 rw [w64 (n := a) (by omega) (by omega), w64 (n := b) (by omega) (by omega), w64 (n := c) (by omega) (by omega), w64 (n := 365 * y) (by omega) (by omega), t4, t100, t400]
 unfold Mo.bef
 rw [w64 (n := y / 4) (by omega) (by omega), w64 (n := y / 100) (by omega) (by omega), w64 (n := y / 400) (by omega) (by omega), w64 (n := 365 * y + y / 4) (by omega) (by omega), w64 (n := 365 * y + y / 4 - y / 100) (by omega) (by omega), w64 (by omega) (by omega)]
theorem pbefore_is (y : Int) (h0 : -40000 <= y) (h1 : y <= 40000) (w : World) (M : Int) (hV : Vars M w) : Calls Tryz.prog 151 #[.int .i64 y] w fun e w' => e = .returned (.int .i64 (Mo.bef y)) /\ Below w.heap.size w w' := by
 have h := tree_run (env := [.int .i64 y]) run_before trivial rfl trivial rfl hV
 simp only [Tree.at, V.den] at h
 rw [bef_ev rfl h0 h1] at h
 exact h
def dayX : Nat -> X
 | 0 => .sub .i64 (.add .i64 (.at 3) (.at 2)) (.int 1)
 | k + 1 => .add .i64 (dayX k) (.at (4 + k))
def dayC : List CallX := [⟨151, [.xi .i64 (.sub .i64 (.at 1) (.int 1))], [], xi 3⟩, ⟨106, [xi 1, it 1], [], xi 4⟩, ⟨106, [xi 1, it 2], [], xi 5⟩, ⟨106, [xi 1, it 3], [], xi 6⟩, ⟨106, [xi 1, it 4], [], xi 7⟩, ⟨106, [xi 1, it 5], [], xi 8⟩, ⟨106, [xi 1, it 6], [], xi 9⟩, ⟨106, [xi 1, it 7], [], xi 10⟩, ⟨106, [xi 1, it 8], [], xi 11⟩, ⟨106, [xi 1, it 9], [], xi 12⟩, ⟨106, [xi 1, it 10], [], xi 13⟩, ⟨106, [xi 1, it 11], [], xi 14⟩]
theorem run_days : ([0, 1, 2, 3, 4, 5, 6, 7, 8, 9, 10, 11] : List Nat).all (fun k => chk (runTr Tryz.prog nG (fun _ => none) gd moT dayC 100 131 [xi 1, it (k + 1), xi 2] h0) (.leaf (.xi .i64 (dayX k))) []) = true := by decide +kernel
def dayE (y d : Int) : List Value := [.int .i64 y, .int .i64 d, .int .i64 (Mo.bef (y - 1)), .int .i64 (Mo.dim y 1), .int .i64 (Mo.dim y 2), .int .i64 (Mo.dim y 3), .int .i64 (Mo.dim y 4), .int .i64 (Mo.dim y 5), .int .i64 (Mo.dim y 6), .int .i64 (Mo.dim y 7), .int .i64 (Mo.dim y 8), .int .i64 (Mo.dim y 9), .int .i64 (Mo.dim y 10), .int .i64 (Mo.dim y 11)]
theorem day_ev {M y d : Int} (h0 : -30000 <= y) (h1 : y <= 30000) (d0 : -1000 <= d) (d1 : d <= 1000) : ∀ k : Nat, k <= 11 -> (dayX k).evI (envE (.int .i64 M :: dayE y d)) = Mo.dayN y ((k : Int) + 1) d
 | 0, _ => by
  have e : (dayX 0).evI (envE (.int .i64 M :: dayE y d)) = IntKind.i64.wrap (IntKind.i64.wrap (Mo.bef (y - 1) + d) - 1) := rfl
  have hb : -20000000 <= Mo.bef (y - 1) /\ Mo.bef (y - 1) <= 20000000 := by unfold Mo.bef; omega
  rw [e, w64 (n := Mo.bef (y - 1) + d) (by omega) (by omega), w64 (by omega) (by omega)]
  unfold Mo.dayN
  rw [show ((0 : Nat) : Int) + 1 = 1 from rfl, Mo.cum_one]
  omega
 | k + 1, hk => by
  have ih := day_ev (M := M) h0 h1 d0 d1 k (by omega)
  have e : (dayX (k + 1)).evI (envE (.int .i64 M :: dayE y d)) = IntKind.i64.wrap ((dayX k).evI (envE (.int .i64 M :: dayE y d)) + (X.at (4 + k)).evI (envE (.int .i64 M :: dayE y d))) := rfl
  have ea : (X.at (4 + k)).evI (envE (.int .i64 M :: dayE y d)) = Mo.dim y ((k : Int) + 1) := by
   have hk' : k = 0 \/ k = 1 \/ k = 2 \/ k = 3 \/ k = 4 \/ k = 5 \/ k = 6 \/ k = 7 \/ k = 8 \/ k = 9 \/ k = 10 := by omega
   rcases hk' with rfl | rfl | rfl | rfl | rfl | rfl | rfl | rfl | rfl | rfl | rfl <;> rfl
  have hb : -20000000 <= Mo.bef (y - 1) /\ Mo.bef (y - 1) <= 20000000 := by unfold Mo.bef; omega
  have hc := Mo.cum_succ y ((k : Int) + 1) (by omega) (by omega)
  have hl := Mo.cum_lo y ((k : Int) + 1) (by omega) (by omega)
  have hd := Mo.dim_bd y ((k : Int) + 1)
  rw [e, ih, ea]
  unfold Mo.dayN
  rw [show ((k + 1 : Nat) : Int) + 1 = (k : Int) + 1 + 1 by omega, hc, w64 (by omega) (by omega)]
  omega
theorem day_ok (y d : Int) (h0 : -30000 <= y) (h1 : y <= 30000) (M : Int) : AllX Tryz.prog (envE (.int .i64 M :: dayE y d)) (Vars M) dayC := by
 have F : ∃ fn, Tryz.prog.funcs[(106 : Nat)]? = some fn /\ (fn.name == "runtime.NumGoroutine") = false /\ fn.body.isNone = false := fk
 refine ⟨⟨rfl, fk, fun _ L w hV => ?_⟩,
  ⟨rfl, F, fun _ L w hV => plength_is y 1 (by decide) (by decide) w M hV⟩, ⟨rfl, F, fun _ L w hV => plength_is y 2 (by decide) (by decide) w M hV⟩, ⟨rfl, F, fun _ L w hV => plength_is y 3 (by decide) (by decide) w M hV⟩, ⟨rfl, F, fun _ L w hV => plength_is y 4 (by decide) (by decide) w M hV⟩,
  ⟨rfl, F, fun _ L w hV => plength_is y 5 (by decide) (by decide) w M hV⟩, ⟨rfl, F, fun _ L w hV => plength_is y 6 (by decide) (by decide) w M hV⟩, ⟨rfl, F, fun _ L w hV => plength_is y 7 (by decide) (by decide) w M hV⟩, ⟨rfl, F, fun _ L w hV => plength_is y 8 (by decide) (by decide) w M hV⟩,
  ⟨rfl, F, fun _ L w hV => plength_is y 9 (by decide) (by decide) w M hV⟩, ⟨rfl, F, fun _ L w hV => plength_is y 10 (by decide) (by decide) w M hV⟩, ⟨rfl, F, fun _ L w hV => plength_is y 11 (by decide) (by decide) w M hV⟩, trivial⟩
 have h := pbefore_is (y - 1) (by omega) (by omega) w M hV
 have e : V.dens L (envE (.int .i64 M :: dayE y d)) [.xi .i64 (.sub .i64 (.at 1) (.int 1))] = [.int .i64 (y - 1)] := by
  show [Value.int .i64 (IntKind.i64.wrap (y - 1))] = _
  rw [w64 (by omega) (by omega)]
 show Calls _ _ (V.dens L (envE (.int .i64 M :: dayE y d)) [.xi .i64 (.sub .i64 (.at 1) (.int 1))]).toArray w _
 rw [e]
 exact h
theorem pdays_is (y m d : Int) (h0 : -30000 <= y) (h1 : y <= 30000) (m1 : 1 <= m) (m2 : m <= 12) (d0 : -1000 <= d) (d1 : d <= 1000) (w : World) (M : Int) (hV : Vars M w) : Calls Tryz.prog 131 #[.int .i64 y, .int .i64 m, .int .i64 d] w fun e w' => e = .returned (.int .i64 (Mo.dayN y m d)) /\ Below w.heap.size w w' := by
 obtain ⟨k, rfl⟩ : ∃ k : Nat, m = (k : Int) + 1 := ⟨(m - 1).toNat, by omega⟩
 have hr := List.all_eq_true.1 run_days k (by simp only [List.mem_cons, List.not_mem_nil, or_false]; omega)
 have h := tree_run (env := dayE y d) hr (day_ok y d h0 h1 M) rfl trivial rfl hV
 simp only [Tree.at, V.den] at h
 rw [day_ev h0 h1 d0 d1 k (by omega)] at h
 exact h

def decL (a : Dc.D) : List Value := [.bool a.1, .string (str (Dc.digs a.2.1)), .int .i64 (a.2.2 : Int)]
def ptL (T : Int) : List Value := .int .i64 (T / Dc.U) :: decL (Dc.frac (T % Dc.U))
def ptV (b : Nat) : V := .agg [xi b, xb (b + 1), xs (b + 2), xi (b + 3)]
def one : V := .agg [.bool false, .str [49], it 0]
theorem digs_size60 {a : Dc.D} (h : Dc.ok a) : (str (Dc.digs a.2.1)).size <= 1000000 := by
 have h1 : (Dc.digs a.2.1).length <= 60 := h.1
 rw [str_size]; omega
theorem two_some {f : Dc.D -> Dc.D -> Option Dc.D} {a b c : Dc.D} (ha : Dc.ok a) (hb : Dc.ok b) (h : f a b = some c) : twoR f a.1 (str (Dc.digs a.2.1)) (a.2.2 : Int) b.1 (str (Dc.digs b.2.1)) (b.2.2 : Int) = ⟨c.1, str (Dc.digs c.2.1), (c.2.2 : Int), 0⟩ := by
 rw [two_yes (ok_okB ha) (ok_okB hb), raw_of, raw_of, h]; rfl
theorem cmp_some {a b : Dc.D} (ha : Dc.ok a) (hb : Dc.ok b) : cmpR a.1 (str (Dc.digs a.2.1)) (a.2.2 : Int) b.1 (str (Dc.digs b.2.1)) (b.2.2 : Int) = (Dc.cmpD a b, 0) := by
 unfold cmpR
 rw [if_pos ⟨ok_okB ha, ok_okB hb⟩, raw_of, raw_of]
theorem one_str : str (Dc.digs 1) = ⟨#[49]⟩ := by rw [Dc.digs_low (by decide)]; rfl
def Small (T : Int) : Prop := -900000000000000 <= T / Dc.U /\ T / Dc.U <= 900000000000000
theorem frac_p (T : Int) : Dc.ok (Dc.frac (T % Dc.U)) := (Dc.frac_ok (Dc.emod_bd T).1 (Dc.emod_bd T).2).1
def trPcmp : Tree := (.node (.lt (.at 1) (.at 5)) (.leaf (it (-1))) (.node (.lt (.at 5) (.at 1)) (.leaf (it 1)) (.leaf (.xi .i64 (.at 9)))))
def pcE (S T : Int) : List Value := ptL S ++ ptL T ++ [.int .i64 (Dc.cmpD (Dc.frac (S % Dc.U)) (Dc.frac (T % Dc.U))), .int .i64 0]
theorem pcmp_at (S T M : Int) : (trPcmp.at (envE (.int .i64 M :: pcE S T))).den L0 (envE (.int .i64 M :: pcE S T)) = .int .i64 (Dc.ordI S T) := by
 rw [Dc.point_ord]
 have e : trPcmp.at (envE (.int .i64 M :: pcE S T)) = bif decide (S / Dc.U < T / Dc.U) then it (-1) else bif decide (T / Dc.U < S / Dc.U) then it 1 else .xi .i64 (.at 9) := rfl
 rw [e]
 by_cases h1 : S / Dc.U < T / Dc.U
 ·rw [decide_eq_true h1, if_pos h1]; rfl
 ·rw [decide_eq_false h1, if_neg h1]
  by_cases h2 : T / Dc.U < S / Dc.U
  ·rw [decide_eq_true h2, if_pos h2]; rfl
  ·rw [decide_eq_false h2, if_neg h2]; rfl
def ppcC : List CallX := [⟨43, [deV 2, deV 6], [], .tup [xi 9, xi 10]⟩]
theorem prun_ord : chk (runTr Tryz.prog nG (fun _ => none) gd moT ppcC 100 86 [ptV 1, ptV 5] h0) trPcmp [] = true := by decide +kernel
theorem pord_is (S T : Int) (w : World) (M : Int) (hV : Vars M w) : Calls Tryz.prog 86 #[.agg (ptL S).toArray, .agg (ptL T).toArray] w fun e w' => e = .returned (.int .i64 (Dc.ordI S T)) /\ Below w.heap.size w w' := by
 have hc : AllX Tryz.prog (envE (.int .i64 M :: pcE S T)) (Vars M) ppcC := ⟨⟨rfl, fk, fun _ L w hV => pcmp_is (Dc.frac (S % Dc.U)).1 (str (Dc.digs (Dc.frac (S % Dc.U)).2.1)) ((Dc.frac (S % Dc.U)).2.2 : Int) (Dc.frac (T % Dc.U)).1 (str (Dc.digs (Dc.frac (T % Dc.U)).2.1)) ((Dc.frac (T % Dc.U)).2.2 : Int) (digs_size60 (frac_p S)) (digs_size60 (frac_p T)) _ _ (cmp_some (frac_p S) (frac_p T)) w⟩, trivial⟩
 have h := tree_run (env := pcE S T) prun_ord hc rfl trivial rfl hV
 rw [pcmp_at S T M] at h
 exact h
def rpcC : List CallX := [⟨45, [deV 2, deV 6], [], .tup [xi 9, xi 10]⟩]
theorem rrun_ord : chk (runTr Tryz.prog nG (fun _ => none) gd moT rpcC 100 90 [ptV 1, ptV 5] h0) trPcmp [] = true := by decide +kernel
theorem rord_is (S T : Int) (w : World) (M : Int) (hV : Vars M w) : Calls Tryz.prog 90 #[.agg (ptL S).toArray, .agg (ptL T).toArray] w fun e w' => e = .returned (.int .i64 (Dc.ordI S T)) /\ Below w.heap.size w w' := by
 have hc : AllX Tryz.prog (envE (.int .i64 M :: pcE S T)) (Vars M) rpcC := ⟨⟨rfl, fk, fun _ L w hV => rcmp_is (Dc.frac (S % Dc.U)).1 (str (Dc.digs (Dc.frac (S % Dc.U)).2.1)) ((Dc.frac (S % Dc.U)).2.2 : Int) (Dc.frac (T % Dc.U)).1 (str (Dc.digs (Dc.frac (T % Dc.U)).2.1)) ((Dc.frac (T % Dc.U)).2.2 : Int) (digs_size60 (frac_p S)) (digs_size60 (frac_p T)) _ _ (cmp_some (frac_p S) (frac_p T)) w⟩, trivial⟩
 have h := tree_run (env := pcE S T) rrun_ord hc rfl trivial rfl hV
 rw [pcmp_at S T M] at h
 exact h
end Go.Proofs.YthoojcdjjecogaaGreatDoor
namespace Go.Proofs.YthoojcdjjecogaaGreatDoor
open Go Go.RowKit
open Go.Ex

theorem run_long : chk (runTr Tryz.prog nG (fun _ => none) gd moT [] 100 109 [xi 1] h0) (leapT (.bool true) (.bool false)) [] = true := by decide +kernel
theorem rlong_is (y : Int) (b : Bool) (hb : decide (Mo.lg y = 1) = b) (w : World) (M : Int) (hV : Vars M w) : Calls Tryz.prog 109 #[.int .i64 y] w fun e w' => e = .returned (.bool b) /\ Below w.heap.size w w' := by
 have h := tree_run (env := [.int .i64 y]) run_long trivial rfl trivial rfl hV
 rw [leap_at rfl] at h
 have e : ((if Mo.lg y = 1 then V.bool true else V.bool false) : V).den L0 (envE [.int .i64 M, .int .i64 y]) = .bool b := by
  rw [<- hb]; split
  ·rename_i h; rw [decide_eq_true h]; rfl
  ·rename_i h; rw [decide_eq_false h]; rfl
 rw [e] at h
 exact h
theorem rlen_b (y m b : Int) (hb : Mo.dim y m = b) (h1 : 1 <= m) (h2 : m <= 12) (w : World) (M : Int) (hV : Vars M w) : Calls Tryz.prog 75 #[.int .i64 y, .int .i64 m] w fun e w' => e = .returned (.int .i64 b) /\ Below w.heap.size w w' := by
 rw [<- hb]; exact rlength_is y m h1 h2 w M hV
theorem bef_bd {y : Int} (h0 : -31000 <= y) (h1 : y <= 31000) : -20000000 <= Mo.bef y /\ Mo.bef y <= 20000000 := by unfold Mo.bef; omega
theorem rdays_is (y m d D : Int) (hD : Mo.dayN y m d = D) (h0 : -30000 <= y) (h1 : y <= 30000) (m1 : 1 <= m) (m2 : m <= 12) (d0 : -1000 <= d) (d1 : d <= 1000) (w : World) (M : Int) (hV : Vars M w) : Calls Tryz.prog 133 #[.int .i64 y, .int .i64 m, .int .i64 d] w fun e w' => e = .returned (.int .i64 D) /\ Below w.heap.size w w' := by
 have HV := Lib.hid hV
 have HD := Lib.hid hD
 clear hD hV
 go_enter Tryz.func133, Tryz.ntmps133
 go_wp2
 go_loopw [7, 8] (fun a k wr => ∃ i u : Int, k = .int .i64 i /\ a = .int .i64 u /\ 1 <= i /\ i <= m /\ 0 <= u /\ u <= 366 /\ Hid (u = Mo.cum y i) /\ Below w.heap.size w wr) (fun _ k _ => (m - intOf k).toNat)
 case atStart => exact ⟨1, 0, rfl, rfl, Int.le_refl _, m1, Int.le_refl _, by decide, Lib.hid (Mo.cum_one y).symm, Below.refl _ _⟩
 case round =>
  obtain ⟨i, u, rfl, rfl, i1, i2, u1, u2, hu, hB⟩ := hrel
  by_cases hi : i < m
  ·obtain ⟨l, hl⟩ : ∃ l, Mo.dim y i = l := ⟨_, rfl⟩
   have C3 := Lib.hid (fun w hV => rlen_b y i l hl (by omega) (by omega) w M hV)
   have hlb := Mo.dim_bd y i
   rw [hl] at hlb
   obtain ⟨l1, l2⟩ := hlb
   have hcs := Lib.hid (Mo.cum_succ y i i1 (by omega))
   have hcl := Lib.hid (Mo.cum_lo y (i + 1) (by omega) (by omega))
   have HL := Lib.hid hl
   clear hl
   go_wp2_with (go_at_call 75; refine (C3.out _ (HV.out.next hB)).mono ?_; rintro e w3 ⟨rfl, hb3⟩; replace hB := hB.trans (hb3.mono hB.size); clear hb3)
   go_roundw
   case rel =>
    have hv : u + l = Mo.cum y (i + 1) := by rw [hcs.out, hu.out, HL.out]
    exact ⟨i + 1, u + l, by simp, by simp, by omega, by omega, by rw [hv]; exact hcl.out.1, by rw [hv]; exact hcl.out.2, Lib.hid hv, hB⟩
   case measure => simp [intOf]; omega
  ·obtain rfl : i = m := by omega
   go_wp2
   clear hi i2
   obtain ⟨wo, rfl⟩ : ∃ wo : World, wo = wr := ⟨_, rfl⟩
   go_loopw [0, 7] (fun q a wr => ∃ z v : Int, q = .int .i64 z /\ a = .int .i64 v /\ -30000 <= z /\ z <= 30000 /\ -50000000 <= v /\ v <= 50000000 /\ Hid (v = Mo.cum y i + Mo.bef (y - 1) - Mo.bef (z - 1)) /\ Below w.heap.size w wr) (fun q _ _ => (intOf q + 30000).toNat)
   case atStart => exact ⟨y, u, rfl, rfl, h0, h1, by omega, by omega, Lib.hid (by rw [hu.out]; omega), hB⟩
   case round =>
    clear hB
    obtain ⟨z, v, rfl, rfl, z1, z2, v1, v2, hv, hB⟩ := hrel
    by_cases hz : 400 < z
    ·have hvn : v + 146097 = Mo.cum y i + Mo.bef (y - 1) - Mo.bef (z - 400 - 1) := by
      have e := Mo.bef_400 (z - 400 - 1)
      rw [show z - 400 - 1 + 400 = z - 1 by omega] at e
      rw [hv.out]; omega
     have hvb : v + 146097 <= 50000000 := by
      have e1 := Mo.cum_lo y i (by omega) (by omega)
      have e2 := bef_bd (y := y - 1) (by omega) (by omega)
      have e3 := bef_bd (y := z - 400 - 1) (by omega) (by omega)
      omega
     have HVN := Lib.hid hvn
     clear hvn
     go_wp2
     go_roundw
     case rel => exact ⟨z - 400, v + 146097, by simp, by simp, by omega, by omega, by omega, by omega, HVN, hB⟩
     case measure => simp [intOf]; omega
    ·go_wp2
     obtain ⟨wo2, rfl⟩ : ∃ wo2 : World, wo2 = wr := ⟨_, rfl⟩
     go_loopw [0, 7] (fun q a wr => ∃ z v : Int, q = .int .i64 z /\ a = .int .i64 v /\ -30000 <= z /\ z <= 400 /\ -50000000 <= v /\ v <= 50000000 /\ Hid (v = Mo.cum y i + Mo.bef (y - 1) - Mo.bef (z - 1)) /\ Below w.heap.size w wr) (fun q _ _ => (400 - intOf q).toNat)
     case atStart => exact ⟨z, v, rfl, rfl, z1, by omega, v1, v2, hv, hB⟩
     case round =>
      clear hv hz z1 z2 v1 v2 hB
      obtain ⟨z, v, rfl, rfl, z1, z2, v1, v2, hv, hB⟩ := hrel
      by_cases hz : z < 1
      ·have hvn : v - 146097 = Mo.cum y i + Mo.bef (y - 1) - Mo.bef (z + 400 - 1) := by
        have e := Mo.bef_400 (z - 1)
        rw [show z - 1 + 400 = z + 400 - 1 by omega] at e
        rw [hv.out]; omega
       have hvb : -50000000 <= v - 146097 := by
        have e1 := Mo.cum_lo y i (by omega) (by omega)
        have e2 := bef_bd (y := y - 1) (by omega) (by omega)
        have e3 := bef_bd (y := z + 400 - 1) (by omega) (by omega)
        omega
       have HVN := Lib.hid hvn
       clear hvn
       go_wp2
       go_roundw
       case rel => exact ⟨z + 400, v - 146097, by simp, by simp, by omega, by omega, by omega, by omega, HVN, hB⟩
       case measure => simp [intOf]; omega
      ·go_wp2
       obtain ⟨wo3, rfl⟩ : ∃ wo3 : World, wo3 = wr := ⟨_, rfl⟩
       go_loopw [7, 9] (fun a k wr => ∃ j c : Int, k = .int .i64 j /\ a = .int .i64 c /\ 1 <= j /\ j <= z /\ -80000000 <= c /\ c <= 80000000 /\ Hid (c = v + Mo.bef (j - 1)) /\ Below w.heap.size w wr) (fun _ k _ => (z - intOf k).toNat)
       case atStart => exact ⟨1, v, rfl, rfl, Int.le_refl _, by omega, by omega, by omega, Lib.hid (by rw [show (1 : Int) - 1 = 0 from rfl, show Mo.bef 0 = 0 from rfl]; omega), hB⟩
       case round =>
        clear hB
        obtain ⟨j, c, rfl, rfl, j1, j2, c1, c2, hc, hB⟩ := hrel
        by_cases hj : j < z
        ·obtain ⟨b, hb⟩ : ∃ b, decide (Mo.lg j = 1) = b := ⟨_, rfl⟩
         have C4 := Lib.hid (fun w hV => rlong_is j b hb w M hV)
         have hcb : c + 366 <= 80000000 := by
          have e1 := bef_bd (y := j - 1) (by omega) (by omega)
          have := hc.out
          omega
         have hlg : Hid (v + Mo.bef (j + 1 - 1) = c + 365 + (if b = true then 1 else 0)) := Lib.hid (by
          have e := Mo.bef_succ j
          have e2 := Mo.lg_01 j
          rw [show j + 1 - 1 = j by omega, e, hc.out, <- hb]
          by_cases hq : Mo.lg j = 1
          ·rw [decide_eq_true hq, if_pos rfl]; omega
          ·rw [decide_eq_false hq, if_neg (by decide)]; omega)
         clear hb
         cases b with
         | true =>
          go_wp2_with (go_at_call 109; refine (C4.out _ (HV.out.next hB)).mono ?_; rintro e w3 ⟨rfl, hb3⟩; replace hB := hB.trans (hb3.mono hB.size); clear hb3)
          go_roundw
          case rel => exact ⟨j + 1, c + 365 + 1, by simp, by simp, by omega, by omega, by omega, by omega, Lib.hid (by rw [hlg.out]; rfl), hB⟩
          case measure => simp [intOf]; omega
         | false =>
          go_wp2_with (go_at_call 109; refine (C4.out _ (HV.out.next hB)).mono ?_; rintro e w3 ⟨rfl, hb3⟩; replace hB := hB.trans (hb3.mono hB.size); clear hb3)
          go_roundw
          case rel => exact ⟨j + 1, c + 365, by simp, by simp, by omega, by omega, by omega, by omega, Lib.hid (by rw [hlg.out, if_neg (by decide)]; omega), hB⟩
          case measure => simp [intOf]; omega
        ·obtain rfl : j = z := by omega
         have hres : c + d - 1 = D := by
          rw [<- HD.out, hc.out, hv.out]
          unfold Mo.dayN
          omega
         have HR := Lib.hid hres
         clear hres
         go_wp2
         go_ret
         exact ⟨by rw [<- HR.out]; rfl, hB⟩
end Go.Proofs.YthoojcdjjecogaaGreatDoor
