/-
  Part 19b of the proof: what functions return, and plain facts (Mof). Conditions: each theorem names its own.
-/
import Derived.Test.YtckodhldimhbfaaGreatDoorG19
set_option maxRecDepth 1000000
set_option maxHeartbeats 16000000
namespace Go.Proofs.YtckodhldimhbfaaGreatDoor
open Go Go.RowKit Go.Ex
namespace Mo
theorem year_some (n : Int) : ∀ (k : Nat) (z : Int), bef z <= n -> n < bef (z + k) -> ∃ y, bef (y - 1) <= n /\ n < bef y
 | 0, z, h1, h2 => by rw [show z + ((0 : Nat) : Int) = z by omega] at h2; omega
 | k + 1, z, h1, h2 => by
  by_cases h : n < bef (z + k)
  ·exact year_some n k z h1 h
  ·exact ⟨z + (k + 1 : Nat), by rw [show z + ((k + 1 : Nat) : Int) - 1 = z + k by omega]; omega, h2⟩
theorem date_some (n : Int) : ∃ p : Int × Int × Int, IsDate n p.1 p.2.1 p.2.2 := by
 obtain ⟨y, h1, h2⟩ := year_some n (2 * (n.natAbs + 1)) (-(n.natAbs + 1)) (by unfold bef; omega) (by
  rw [show -((n.natAbs : Int) + 1) + ((2 * (n.natAbs + 1) : Nat) : Int) = n.natAbs + 1 by omega]
  unfold bef; omega)
 have e := bef_succ y
 obtain ⟨m, m1, m2, m3, m4⟩ := month_some y (n - bef (y - 1)) (by omega) (by omega)
 refine ⟨(y, m, n - bef (y - 1) - cum y m + 1), m1, m2, ?_, ?_, ?_⟩
 ·show 1 <= n - bef (y - 1) - cum y m + 1; omega
 ·show n - bef (y - 1) - cum y m + 1 <= dim y m; omega
 ·show n = dayN y m (n - bef (y - 1) - cum y m + 1)
  unfold dayN; omega
noncomputable def dateOf (n : Int) : Int × Int × Int := Classical.choose (date_some n)
theorem dateOf_is (n : Int) : IsDate n (dateOf n).1 (dateOf n).2.1 (dateOf n).2.2 := Classical.choose_spec (date_some n)
theorem dateOf_eq {n y m d : Int} (h : IsDate n y m d) : dateOf n = (y, m, d) := by
 obtain ⟨a, b, c⟩ := date_unique (dateOf_is n) h
 ext <;> simp [a, b, c]
theorem dateOf_bd {n : Int} (h0 : -4000000 <= n) (h1 : n <= 4000000) : -12000 <= (dateOf n).1 /\ (dateOf n).1 <= 12000 := by
 obtain ⟨y0, y1⟩ := date_year (dateOf_is n)
 generalize (dateOf n).1 = y at *
 constructor
 ·rcases Int.lt_or_le y (-12000) with c | c
  ·have := bef_mono (a := y) (b := -12000) (by omega)
   have e : bef (-12000) = -4382910 := by decide
   omega
  ·exact c
 ·rcases Int.lt_or_le 12000 y with c | c
  ·have := bef_mono (a := 12000) (b := y - 1) (by omega)
   have e : bef 12000 = 4382910 := by decide
   omega
  ·exact c
def dayOf (T : Int) : Int := T / Dc.U / 86400
def restOf (T : Int) : Int := T / Dc.U % 86400
noncomputable def secOf (T : Int) : Res := twoR Dc.addD false (str (Dc.digs (restOf T % 60).natAbs)) 0 (Dc.frac (T % Dc.U)).1 (str (Dc.digs (Dc.frac (T % Dc.U)).2.1)) ((Dc.frac (T % Dc.U)).2.2 : Int)
def none : Mo := ⟨0, 0, 0, 0, 0, 0, false, ⟨#[]⟩, 0, false, 0⟩
noncomputable def ofM (k T : Int) : Mo × Int :=
 if k ≠ 2 /\ (dayOf T < -4000000 \/ 4000000 < dayOf T \/ called (dateOf (dayOf T)).1 < -9999 \/ 9999 < called (dateOf (dayOf T)).1) then (none, 7)
 else if k ≠ 1 /\ (secOf T).k ≠ 0 then (none, (secOf T).k)
 else (⟨k, if k = 2 then 0 else called (dateOf (dayOf T)).1, if k = 2 then 0 else (dateOf (dayOf T)).2.1, if k = 2 then 0 else (dateOf (dayOf T)).2.2, if k = 1 then 0 else restOf T / 3600, if k = 1 then 0 else restOf T / 60 % 60, if k = 1 then false else (secOf T).n, if k = 1 then ⟨#[]⟩ else (secOf T).s, if k = 1 then 0 else (secOf T).S, false, 0⟩, 0)
theorem tdiv_floor (n : Int) : n / 86400 = (if n.tmod 86400 < 0 then n.tdiv 86400 - 1 else n.tdiv 86400) /\ n % 86400 = (if n.tmod 86400 < 0 then n.tmod 86400 + 86400 else n.tmod 86400) := by
 have h1 := Int.mul_tdiv_add_tmod n 86400
 have h2 := Int.tmod_lt_of_pos n (b := 86400) (by decide)
 have h3 : -86400 < n.tmod 86400 := by
  have := Int.tmod_lt_of_pos (-n) (b := 86400) (by decide)
  rw [Int.neg_tmod] at this
  omega
 split <;> omega
end Mo
def dailyT : Tree := .node (.lt (.at 1) (.int 0)) (.leaf (.xi .i64 (.neg .i64 (.quo .i64 (.add .i64 (.neg .i64 (.at 1)) (.int 86399)) (.int 86400))))) (.leaf (.xi .i64 (.quo .i64 (.at 1) (.int 86400))))
theorem run_daily : chk (runTr Tryz.prog nG (fun _ => none) gd moT [] 100 92 [xi 1] h0) dailyT [] = true := by decide +kernel
theorem rdaily_is (n : Int) (h0 : -1000000000000000 <= n) (h1 : n <= 1000000000000000) (w : World) (M : Int) (hV : Vars M w) : Calls Tryz.prog 92 #[.int .i64 n] w fun e w' => e = .returned (.int .i64 (n / 86400)) /\ Below w.heap.size w w' := by
 have h := tree_run (env := [.int .i64 n]) run_daily trivial rfl trivial rfl hV
 have e : (dailyT.at (envE [.int .i64 M, .int .i64 n])).den L0 (envE [.int .i64 M, .int .i64 n]) = .int .i64 (n / 86400) := by
  have e0 : dailyT.at (envE [.int .i64 M, .int .i64 n]) = bif decide (n < 0) then .xi .i64 (.neg .i64 (.quo .i64 (.add .i64 (.neg .i64 (.at 1)) (.int 86399)) (.int 86400))) else .xi .i64 (.quo .i64 (.at 1) (.int 86400)) := rfl
  rw [e0]
  by_cases hn : n < 0
  ·rw [decide_eq_true hn]
   show Value.int .i64 (IntKind.i64.wrap (-IntKind.i64.wrap ((IntKind.i64.wrap (IntKind.i64.wrap (-n) + 86399)).tdiv 86400))) = _
   rw [w64 (n := -n) (by omega) (by omega), w64 (n := -n + 86399) (by omega) (by omega), Int.tdiv_eq_ediv_of_nonneg (by omega), w64 (n := (-n + 86399) / 86400) (by omega) (by omega), w64 (by omega) (by omega)]
   congr 1
   omega
  ·rw [decide_eq_false hn]
   show Value.int .i64 (IntKind.i64.wrap (n.tdiv 86400)) = _
   rw [Int.tdiv_eq_ediv_of_nonneg (by omega), w64 (by omega) (by omega)]
 rw [e] at h
 exact h
end Go.Proofs.YtckodhldimhbfaaGreatDoor
