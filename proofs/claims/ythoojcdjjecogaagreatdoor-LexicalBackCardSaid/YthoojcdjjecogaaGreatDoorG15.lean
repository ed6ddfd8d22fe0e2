/-
  Part 15 of the proof: what functions return, and plain facts (Mpoint Mplus Msplit Mdays Mrdays Mrdate). Conditions: each theorem names its own.
-/
import Derived.Test.YthoojcdjjecogaaGreatDoorG14
import Derived.Test.YthoojcdjjecogaaGreatDoorG08
import Derived.Test.YthoojcdjjecogaaGreatDoorG12
import Derived.Lib.ParseIntBCases
import Derived.Lib.AtoiErrMem
set_option maxRecDepth 1000000
set_option maxHeartbeats 16000000
namespace Go.Proofs.YthoojcdjjecogaaGreatDoor
open Go Go.RowKit Go.Ex

theorem w64 {n : Int} (h0 : -9223372036854775808 <= n) (h1 : n <= 9223372036854775807) : IntKind.i64.wrap n = n := by
 rw [IntKind.wrap_i64]; omega
def befX : X := .add .i64 (.sub .i64 (.add .i64 (.mul .i64 (.int 365) (.at 1)) (.sub .i64 (.quo .i64 (.add .i64 (.at 1) (.int 40000)) (.int 4)) (.int 10000))) (.sub .i64 (.quo .i64 (.add .i64 (.at 1) (.int 40000)) (.int 100)) (.int 400))) (.sub .i64 (.quo .i64 (.add .i64 (.at 1) (.int 40000)) (.int 400)) (.int 100))
theorem run_before : chk (runTr Tryz.prog nG (fun _ => none) gd moT [] 100 151 [xi 1] h0) (.leaf (.xi .i64 befX)) [] = true := by decide +kernel
theorem bef_ev {E : Nat -> Value} {y : Int} (h : E 1 = .int .i64 y) (h0 : -40000 <= y) (h1 : y <= 40000) : befX.evI E = Mo.bef y := by
 have t4 := Mo.over4 h0
 have t100 := Mo.over100 h0
 have t400 := Mo.over400 h0
 simp only [befX, X.evI, h]
 rw [w64 (n := y + 40000) (by omega) (by omega)]
 generalize (y + 40000).tdiv 4 = a at *
 generalize (y + 40000).tdiv 100 = b at *
 generalize (y + 40000).tdiv 400 = c at *
 rw [w64 (n := a) (by omega) (by omega), w64 (n := b) (by omega) (by omega), w64 (n := c) (by omega) (by omega), w64 (n := 365 * y) (by omega) (by omega), t4, t100, t400]
 unfold Mo.bef
 rw [w64 (n := y / 4) (by omega) (by omega), w64 (n := y / 100) (by omega) (by omega), w64 (n := y / 400) (by omega) (by omega), w64 (n := 365 * y + y / 4) (by omega) (by omega), w64 (n := 365 * y + y / 4 - y / 100) (by omega) (by omega), w64 (by omega) (by omega)]
theorem pbefore_is (y : Int) (h0 : -40000 <= y) (h1 : y <= 40000) (w : World) (M : Int) (hV : Vars M w) : Calls Tryz.prog 151 #[.int .i64 y] w fun e w' => e = .returned (.int .i64 (Mo.bef y)) /\ Below w.heap.size w w' := by
 have h := tree_run (env := [.int .i64 y]) run_before trivial rfl trivial rfl hV
 simp only [Tree.at, V.den] at h
 rw [bef_ev rfl h0 h1] at h
 exact h
def dayX : Nat -> X
 | 0 => .sub .i64 (.add .i64 (.at 3) (.at 2)) (.int 1)
 | k + 1 => .add .i64 (dayX k) (.at (4 + k))
def dayC : List CallX := [⟨151, [.xi .i64 (.sub .i64 (.at 1) (.int 1))], [], xi 3⟩, ⟨106, [xi 1, it 1], [], xi 4⟩, ⟨106, [xi 1, it 2], [], xi 5⟩, ⟨106, [xi 1, it 3], [], xi 6⟩, ⟨106, [xi 1, it 4], [], xi 7⟩, ⟨106, [xi 1, it 5], [], xi 8⟩, ⟨106, [xi 1, it 6], [], xi 9⟩, ⟨106, [xi 1, it 7], [], xi 10⟩, ⟨106, [xi 1, it 8], [], xi 11⟩, ⟨106, [xi 1, it 9], [], xi 12⟩, ⟨106, [xi 1, it 10], [], xi 13⟩, ⟨106, [xi 1, it 11], [], xi 14⟩]
theorem run_days : ([0, 1, 2, 3, 4, 5, 6, 7, 8, 9, 10, 11] : List Nat).all (fun k => chk (runTr Tryz.prog nG (fun _ => none) gd moT dayC 100 131 [xi 1, it (k + 1), xi 2] h0) (.leaf (.xi .i64 (dayX k))) []) = true := by decide +kernel
def dayE (y d : Int) : List Value := [.int .i64 y, .int .i64 d, .int .i64 (Mo.bef (y - 1)), .int .i64 (Mo.dim y 1), .int .i64 (Mo.dim y 2), .int .i64 (Mo.dim y 3), .int .i64 (Mo.dim y 4), .int .i64 (Mo.dim y 5), .int .i64 (Mo.dim y 6), .int .i64 (Mo.dim y 7), .int .i64 (Mo.dim y 8), .int .i64 (Mo.dim y 9), .int .i64 (Mo.dim y 10), .int .i64 (Mo.dim y 11)]
theorem day_ev {M y d : Int} (h0 : -30000 <= y) (h1 : y <= 30000) (d0 : -1000 <= d) (d1 : d <= 1000) : ∀ k : Nat, k <= 11 -> (dayX k).evI (envE (.int .i64 M :: dayE y d)) = Mo.dayN y ((k : Int) + 1) d
 | 0, _ => by
  have e : (dayX 0).evI (envE (.int .i64 M :: dayE y d)) = IntKind.i64.wrap (IntKind.i64.wrap (Mo.bef (y - 1) + d) - 1) := rfl
  have hb : -20000000 <= Mo.bef (y - 1) /\ Mo.bef (y - 1) <= 20000000 := by unfold Mo.bef; omega
  rw [e, w64 (n := Mo.bef (y - 1) + d) (by omega) (by omega), w64 (by omega) (by omega)]
  unfold Mo.dayN
  rw [show ((0 : Nat) : Int) + 1 = 1 from rfl, Mo.cum_one]
  omega
 | k + 1, hk => by
  have ih := day_ev (M := M) h0 h1 d0 d1 k (by omega)
  have e : (dayX (k + 1)).evI (envE (.int .i64 M :: dayE y d)) = IntKind.i64.wrap ((dayX k).evI (envE (.int .i64 M :: dayE y d)) + (X.at (4 + k)).evI (envE (.int .i64 M :: dayE y d))) := rfl
  have ea : (X.at (4 + k)).evI (envE (.int .i64 M :: dayE y d)) = Mo.dim y ((k : Int) + 1) := by
   have hk' : k = 0 \/ k = 1 \/ k = 2 \/ k = 3 \/ k = 4 \/ k = 5 \/ k = 6 \/ k = 7 \/ k = 8 \/ k = 9 \/ k = 10 := by omega
   rcases hk' with rfl | rfl | rfl | rfl | rfl | rfl | rfl | rfl | rfl | rfl | rfl <;> rfl
  have hb : -20000000 <= Mo.bef (y - 1) /\ Mo.bef (y - 1) <= 20000000 := by unfold Mo.bef; omega
  have hc := Mo.cum_succ y ((k : Int) + 1) (by omega) (by omega)
  have hl := Mo.cum_lo y ((k : Int) + 1) (by omega) (by omega)
  have hd := Mo.dim_bd y ((k : Int) + 1)
  rw [e, ih, ea]
  unfold Mo.dayN
  rw [show ((k + 1 : Nat) : Int) + 1 = (k : Int) + 1 + 1 by omega, hc, w64 (by omega) (by omega)]
  omega
theorem day_ok (y d : Int) (h0 : -30000 <= y) (h1 : y <= 30000) (M : Int) : AllX Tryz.prog (envE (.int .i64 M :: dayE y d)) (Vars M) dayC := by
 have F : ∃ fn, Tryz.prog.funcs[(106 : Nat)]? = some fn /\ (fn.name == "runtime.NumGoroutine") = false /\ fn.body.isNone = false := fk
 refine ⟨⟨rfl, fk, fun _ L w hV => ?_⟩,
  ⟨rfl, F, fun _ L w hV => plength_is y 1 (by decide) (by decide) w M hV⟩, ⟨rfl, F, fun _ L w hV => plength_is y 2 (by decide) (by decide) w M hV⟩, ⟨rfl, F, fun _ L w hV => plength_is y 3 (by decide) (by decide) w M hV⟩, ⟨rfl, F, fun _ L w hV => plength_is y 4 (by decide) (by decide) w M hV⟩,
  ⟨rfl, F, fun _ L w hV => plength_is y 5 (by decide) (by decide) w M hV⟩, ⟨rfl, F, fun _ L w hV => plength_is y 6 (by decide) (by decide) w M hV⟩, ⟨rfl, F, fun _ L w hV => plength_is y 7 (by decide) (by decide) w M hV⟩, ⟨rfl, F, fun _ L w hV => plength_is y 8 (by decide) (by decide) w M hV⟩,
  ⟨rfl, F, fun _ L w hV => plength_is y 9 (by decide) (by decide) w M hV⟩, ⟨rfl, F, fun _ L w hV => plength_is y 10 (by decide) (by decide) w M hV⟩, ⟨rfl, F, fun _ L w hV => plength_is y 11 (by decide) (by decide) w M hV⟩, trivial⟩
 have h := pbefore_is (y - 1) (by omega) (by omega) w M hV
 have e : V.dens L (envE (.int .i64 M :: dayE y d)) [.xi .i64 (.sub .i64 (.at 1) (.int 1))] = [.int .i64 (y - 1)] := by
  show [Value.int .i64 (IntKind.i64.wrap (y - 1))] = _
  rw [w64 (by omega) (by omega)]
 show Calls _ _ (V.dens L (envE (.int .i64 M :: dayE y d)) [.xi .i64 (.sub .i64 (.at 1) (.int 1))]).toArray w _
 rw [e]
 exact h
theorem pdays_is (y m d : Int) (h0 : -30000 <= y) (h1 : y <= 30000) (m1 : 1 <= m) (m2 : m <= 12) (d0 : -1000 <= d) (d1 : d <= 1000) (w : World) (M : Int) (hV : Vars M w) : Calls Tryz.prog 131 #[.int .i64 y, .int .i64 m, .int .i64 d] w fun e w' => e = .returned (.int .i64 (Mo.dayN y m d)) /\ Below w.heap.size w w' := by
 obtain ⟨k, rfl⟩ : ∃ k : Nat, m = (k : Int) + 1 := ⟨(m - 1).toNat, by omega⟩
 have hr := List.all_eq_true.1 run_days k (by simp only [List.mem_cons, List.not_mem_nil, or_false]; omega)
 have h := tree_run (env := dayE y d) hr (day_ok y d h0 h1 M) rfl trivial rfl hV
 simp only [Tree.at, V.den] at h
 rw [day_ev h0 h1 d0 d1 k (by omega)] at h
 exact h

def decL (a : Dc.D) : List Value := [.bool a.1, .string (str (Dc.digs a.2.1)), .int .i64 (a.2.2 : Int)]
def ptL (T : Int) : List Value := .int .i64 (T / Dc.U) :: decL (Dc.frac (T % Dc.U))
def ptV (b : Nat) : V := .agg [xi b, xb (b + 1), xs (b + 2), xi (b + 3)]
def one : V := .agg [.bool false, .str [49], it 0]
theorem digs_size60 {a : Dc.D} (h : Dc.ok a) : (str (Dc.digs a.2.1)).size <= 1000000 := by
 have h1 : (Dc.digs a.2.1).length <= 60 := h.1
 rw [str_size]; omega
theorem two_some {f : Dc.D -> Dc.D -> Option Dc.D} {a b c : Dc.D} (ha : Dc.ok a) (hb : Dc.ok b) (h : f a b = some c) : twoR f a.1 (str (Dc.digs a.2.1)) (a.2.2 : Int) b.1 (str (Dc.digs b.2.1)) (b.2.2 : Int) = ⟨c.1, str (Dc.digs c.2.1), (c.2.2 : Int), 0⟩ := by
 rw [two_yes (ok_okB ha) (ok_okB hb), raw_of, raw_of, h]; rfl
theorem cmp_some {a b : Dc.D} (ha : Dc.ok a) (hb : Dc.ok b) : cmpR a.1 (str (Dc.digs a.2.1)) (a.2.2 : Int) b.1 (str (Dc.digs b.2.1)) (b.2.2 : Int) = (Dc.cmpD a b, 0) := by
 unfold cmpR
 rw [if_pos ⟨ok_okB ha, ok_okB hb⟩, raw_of, raw_of]
theorem one_str : str (Dc.digs 1) = ⟨#[49]⟩ := by rw [Dc.digs_low (by decide)]; rfl
def Small (T : Int) : Prop := -900000000000000 <= T / Dc.U /\ T / Dc.U <= 900000000000000
theorem frac_p (T : Int) : Dc.ok (Dc.frac (T % Dc.U)) := (Dc.frac_ok (Dc.emod_bd T).1 (Dc.emod_bd T).2).1
def trPcmp : Tree := (.node (.lt (.at 1) (.at 5)) (.leaf (it (-1))) (.node (.lt (.at 5) (.at 1)) (.leaf (it 1)) (.leaf (.xi .i64 (.at 9)))))
def pcE (S T : Int) : List Value := ptL S ++ ptL T ++ [.int .i64 (Dc.cmpD (Dc.frac (S % Dc.U)) (Dc.frac (T % Dc.U))), .int .i64 0]
theorem pcmp_at (S T M : Int) : (trPcmp.at (envE (.int .i64 M :: pcE S T))).den L0 (envE (.int .i64 M :: pcE S T)) = .int .i64 (Dc.ordI S T) := by
 rw [Dc.point_ord]
 have e : trPcmp.at (envE (.int .i64 M :: pcE S T)) = bif decide (S / Dc.U < T / Dc.U) then it (-1) else bif decide (T / Dc.U < S / Dc.U) then it 1 else .xi .i64 (.at 9) := rfl
 rw [e]
 by_cases h1 : S / Dc.U < T / Dc.U
 ·rw [decide_eq_true h1, if_pos h1]; rfl
 ·rw [decide_eq_false h1, if_neg h1]
  by_cases h2 : T / Dc.U < S / Dc.U
  ·rw [decide_eq_true h2, if_pos h2]; rfl
  ·rw [decide_eq_false h2, if_neg h2]; rfl
def ppcC : List CallX := [⟨43, [deV 2, deV 6], [], .tup [xi 9, xi 10]⟩]
theorem prun_ord : chk (runTr Tryz.prog nG (fun _ => none) gd moT ppcC 100 86 [ptV 1, ptV 5] h0) trPcmp [] = true := by decide +kernel
theorem pord_is (S T : Int) (w : World) (M : Int) (hV : Vars M w) : Calls Tryz.prog 86 #[.agg (ptL S).toArray, .agg (ptL T).toArray] w fun e w' => e = .returned (.int .i64 (Dc.ordI S T)) /\ Below w.heap.size w w' := by
 have hc : AllX Tryz.prog (envE (.int .i64 M :: pcE S T)) (Vars M) ppcC := ⟨⟨rfl, fk, fun _ L w hV => pcmp_is (Dc.frac (S % Dc.U)).1 (str (Dc.digs (Dc.frac (S % Dc.U)).2.1)) ((Dc.frac (S % Dc.U)).2.2 : Int) (Dc.frac (T % Dc.U)).1 (str (Dc.digs (Dc.frac (T % Dc.U)).2.1)) ((Dc.frac (T % Dc.U)).2.2 : Int) (digs_size60 (frac_p S)) (digs_size60 (frac_p T)) _ _ (cmp_some (frac_p S) (frac_p T)) w⟩, trivial⟩
 have h := tree_run (env := pcE S T) prun_ord hc rfl trivial rfl hV
 rw [pcmp_at S T M] at h
 exact h

theorem parse_digs : ∀ (l : List UInt8) (acc : Nat), (l.map UInt8.toNat).all Dc.dig = true -> acc * 10 ^ l.length + Dc.val (l.map UInt8.toNat) <= 1000000000000000000 -> Lib.parseUintM (2 ^ 64 - 1) acc l = .ok (acc * 10 ^ l.length + Dc.val (l.map UInt8.toNat))
 | [], acc, _, _ => by simp [Lib.parseUintM, Dc.val]
 | c :: r, acc, hd, hs => by
  rw [List.map_cons, List.all_cons, Bool.and_eq_true] at hd
  obtain ⟨h1, h2⟩ := hd
  obtain ⟨d1, d2⟩ := Dc.dig_iff.1 h1
  have e : acc * 10 ^ (c :: r).length + Dc.val ((c :: r).map UInt8.toNat) = (acc * 10 + (c.toNat - 48)) * 10 ^ r.length + Dc.val (r.map UInt8.toNat) := by
   rw [List.map_cons, Dc.val_cons, List.length_map, List.length_cons, Nat.pow_succ, Nat.add_mul, Nat.mul_assoc acc, Nat.mul_comm 10]
   omega
  have hp := Dc.pow10_pos r.length
  have ha : acc * 10 + (c.toNat - 48) <= 1000000000000000000 := by
   have := Nat.le_mul_of_pos_right (acc * 10 + (c.toNat - 48)) hp
   omega
  rw [e]
  unfold Lib.parseUintM
  rw [if_pos ⟨d1, d2⟩, if_neg (by omega), if_neg (by omega)]
  exact parse_digs r _ h2 (by omega)
theorem parse_int {t : ByteArray} {n : Bool} {v : Nat} (hb : bts t = if n then 45 :: Dc.digs v else Dc.digs v) (hv : v <= 1000000000000000000) : Lib.parseIntB 64 t.data.toList = .ok (Dc.sg n v) := by
 have key : ∀ l : List UInt8, l.map UInt8.toNat = Dc.digs v -> Lib.parseUintB 64 l = .ok v := by
  intro l hl
  have hne : l ≠ [] := by rintro rfl; exact Dc.digs_ne v hl.symm
  unfold Lib.parseUintB
  rw [if_neg hne, parse_digs l 0 (by rw [hl]; exact Dc.digs_dig v) (by rw [hl, Dc.val_digs]; omega), hl, Dc.val_digs]
  simp
 unfold bts at hb
 cases hl : t.data.toList with
 | nil =>
  rw [hl] at hb
  cases n
  ·exact absurd hb.symm (Dc.digs_ne v)
  ·cases hb
 | cons c r =>
  rw [hl] at hb
  cases n with
  | true =>
   simp only [if_true, List.map_cons, List.cons.injEq] at hb
   have hc : c = 45 := UInt8.toNat_inj.1 hb.1
   subst hc
   rw [Lib.parseIntB_minus, key r hb.2]
   unfold Lib.signedC Dc.sg
   simp
   omega
  | false =>
   simp only [Bool.false_eq_true, if_false] at hb
   have hd := Dc.digs_dig v
   rw [<- hb, List.map_cons, List.all_cons, Bool.and_eq_true] at hd
   obtain ⟨d1, d2⟩ := Dc.dig_iff.1 hd.1
   rw [Lib.parseIntB_plain 64 c r (by omega) (by omega), key _ hb]
   unfold Lib.signlessC Dc.sg
   simp
   omega
theorem int_txt (n : Bool) (v : Nat) : Dc.txt n (Dc.digs v) 0 = if n then 45 :: Dc.digs v else Dc.digs v := by
 have h := Dc.digs_pos v
 have e : Dc.wide (Dc.digs v) 0 = Dc.digs v := by unfold Dc.wide; rw [show 0 + 1 - (Dc.digs v).length = 0 by omega]; rfl
 unfold Dc.txt Dc.dotted
 rw [if_pos rfl, e]
theorem trunc_text {T : Int} (h : T.natAbs < 10 ^ 75) : ∃ t : ByteArray, textR (Dc.trunc T).1 (str (Dc.digs (Dc.trunc T).2.1)) ((Dc.trunc T).2.2 : Int) = (t, 0) /\ t.size <= 1000000 /\ bts t = if (Dc.trunc T).1 then 45 :: Dc.digs (Dc.trunc T).2.1 else Dc.digs (Dc.trunc T).2.1 := by
 obtain ⟨k1, _⟩ := Dc.trunc_ok h
 have hl : (Dc.digs (Dc.trunc T).2.1).length <= 60 := k1.1
 refine ⟨str (if (Dc.trunc T).1 then 45 :: Dc.digs (Dc.trunc T).2.1 else Dc.digs (Dc.trunc T).2.1), ?_, ?_, ?_⟩
 ·unfold textR
  rw [if_pos (ok_okB k1), bts_digs, <- int_txt]; rfl
 ·rw [str_size]
  split
  ·rw [List.length_cons]; omega
  ·omega
 ·refine bts_str _ fun b hb => ?_
  have hd : ∀ b ∈ Dc.digs (Dc.trunc T).2.1, b < 256 := fun b hb => by
   have := (Dc.dig_iff.1 (List.all_eq_true.1 (Dc.digs_dig _) b hb)).2; omega
  split at hb
  ·rcases List.mem_cons.1 hb with rfl | hb
   ·decide
   ·exact hd b hb
  ·exact hd b hb
structure Sec (n : Bool) (s : ByteArray) (S : Int) (T : Int) : Prop where
 ok : okB n s S = true
 eq : Dc.at_ 60 (rawD n s S) = T
 small : Small T
theorem Sec.abs {n : Bool} {s : ByteArray} {S T : Int} (h : Sec n s S T) : T.natAbs < 10 ^ 75 := by
 obtain ⟨h1, h2⟩ := h.small
 have e := Dc.parts T
 obtain ⟨b0, b1⟩ := Dc.emod_bd T
 have hU := Dc.U_pos
 have u1 : T / Dc.U * Dc.U <= 900000000000000 * Dc.U := Int.mul_le_mul_of_nonneg_right h2 (Int.le_of_lt hU)
 have u2 : -900000000000000 * Dc.U <= T / Dc.U * Dc.U := Int.mul_le_mul_of_nonneg_right h1 (Int.le_of_lt hU)
 have hUv : Dc.U = 1000000000000000000000000000000000000000000000000000000000000 := by decide
 generalize T / Dc.U = q at *
 generalize T % Dc.U = r at *
 have hq : ((10 : Nat) ^ 75) = 1000000000000000000000000000000000000000000000000000000000000000000000000000 := by decide
 rw [hq]
 rw [hUv] at u1 u2 b1 e
 have a1 : T < 1000000000000000000000000000000000000000000000000000000000000000000000000000 := by omega
 have a2 : -1000000000000000000000000000000000000000000000000000000000000000000000000000 < T := by omega
 clear u1 u2 e b0 b1 h1 h2 hU
 rcases Int.natAbs_eq T with h | h <;> omega
def spE (n : Bool) (s : ByteArray) (S T : Int) (t : ByteArray) : List Value := [.bool n, .string s, .int .i64 S] ++ decL (Dc.trunc T) ++ [.int .i64 0, .string t, .int .i64 0, .int .i64 (T.tdiv Dc.U)] ++ decL (Dc.frac (T.tmod Dc.U)) ++ [.int .i64 0] ++ resL (twoR Dc.addD (Dc.frac (T.tmod Dc.U)).1 (str (Dc.digs (Dc.frac (T.tmod Dc.U)).2.1)) ((Dc.frac (T.tmod Dc.U)).2.2 : Int) false ⟨#[49]⟩ 0)
def trSplit : Tree := (.node (.at 11) (.leaf (.agg [(.xi .i64 (.sub .i64 (.at 10) (.int 1))), (.xb (.at 15)), (.xs (.at 16)), (.xi .i64 (.at 17))])) (.leaf (.agg [(.xi .i64 (.at 10)), (.bool false), (.xs (.at 12)), (.xi .i64 (.at 13))])))
theorem split_at (n : Bool) (s : ByteArray) (S T M : Int) (t : ByteArray) (hT : Small T) : (trSplit.at (envE (.int .i64 M :: spE n s S T t))).den L0 (envE (.int .i64 M :: spE n s S T t)) = .agg (ptL T).toArray := by
 obtain ⟨t0, t1⟩ := hT
 obtain ⟨k1, k2, k3, k4⟩ := Dc.tmod_bd T
 have hn := Dc.split_neg T
 have e : trSplit.at (envE (.int .i64 M :: spE n s S T t)) = bif (Dc.frac (T.tmod Dc.U)).1 then .agg [(.xi .i64 (.sub .i64 (.at 10) (.int 1))), (.xb (.at 15)), (.xs (.at 16)), (.xi .i64 (.at 17))] else .agg [(.xi .i64 (.at 10)), (.bool false), (.xs (.at 12)), (.xi .i64 (.at 13))] := rfl
 rw [e, hn]
 by_cases h : T.tmod Dc.U < 0
 ·obtain ⟨p1, p2⟩ := k3 h
  have ha := two_some (f := Dc.addD) (a := Dc.frac (T.tmod Dc.U)) (b := (false, 1, 0)) (Dc.small_ok (Dc.lt_abs k1 k2)).1 Dc.one_ok (Dc.split_add h)
  rw [one_str] at ha
  rw [decide_eq_true h, cond_true]
  show Value.agg [.int .i64 (IntKind.i64.wrap (T.tdiv Dc.U - 1)), .bool (twoR Dc.addD _ _ _ _ _ _).n, .string (twoR Dc.addD _ _ _ _ _ _).s, .int .i64 (twoR Dc.addD _ _ _ _ _ _).S].toArray = _
  rw [w64 (by omega) (by omega)]
  unfold ptL decL
  rw [p1]
  change twoR Dc.addD _ _ _ false ⟨#[49]⟩ 0 = _ at ha
  rw [ha]
 ·obtain ⟨p1, p2⟩ := k4 (by omega)
  rw [decide_eq_false h, cond_false]
  rw [decide_eq_false h] at hn
  show Value.agg [.int .i64 (T.tdiv Dc.U), .bool false, .string (str (Dc.digs (Dc.frac (T.tmod Dc.U)).2.1)), .int .i64 ((Dc.frac (T.tmod Dc.U)).2.2 : Int)].toArray = _
  unfold ptL decL
  rw [p1, p2, hn]
def spC : List CallX := [⟨108, [it 1], [], one⟩, ⟨147, [deV 1, one, it 0], [], .tup [deV 4, xi 7]⟩, ⟨65, [deV 4], [], .tup [xs 8, xi 9]⟩, ⟨148, [xs 8, it 10, it 64], [], .tup [xi 10, .nili]⟩, ⟨149, [deV 1, deV 4], [], .tup [deV 11, xi 14]⟩, ⟨150, [deV 11, one], [], .tup [deV 15, xi 18]⟩]
theorem run_split : chk (runTr Tryz.prog nG (fun _ => none) gd moT spC 100 130 [deV 1] h0) trSplit [] = true := by decide +kernel
theorem bytes_below {w w' : World} (h : w' = w \/ ∃ t, w' = Lib.bytesWorld w 5 t) : Below w.heap.size w w' := by
 rcases h with rfl | ⟨t, rfl⟩
 ·exact Below.refl _ _
 ·exact Lib.bytesWorld_below _ _ _
theorem div_is {n : Bool} {s : ByteArray} {S T : Int} (h : Sec n s S T) : divR n s S false ⟨#[49]⟩ 0 0 = ⟨(Dc.trunc T).1, str (Dc.digs (Dc.trunc T).2.1), ((Dc.trunc T).2.2 : Int), 0⟩ := by
 have k := okB_ok h.ok
 have h1 : okB false ⟨#[49]⟩ 0 = true := by decide
 have ha := h.abs
 unfold divR
 rw [if_pos ⟨h.ok, h1, by decide, by decide, by decide⟩]
 rw [show rawD false ⟨#[49]⟩ 0 = (false, 1, 0) from rfl, show (0 : Int).toNat = 0 from rfl, Dc.split_div k.can (by rw [h.eq]; exact ha), h.eq]
 rfl
theorem sub_is {n : Bool} {s : ByteArray} {S T : Int} (h : Sec n s S T) : twoR Dc.subD n s S (Dc.trunc T).1 (str (Dc.digs (Dc.trunc T).2.1)) ((Dc.trunc T).2.2 : Int) = ⟨(Dc.frac (T.tmod Dc.U)).1, str (Dc.digs (Dc.frac (T.tmod Dc.U)).2.1), ((Dc.frac (T.tmod Dc.U)).2.2 : Int), 0⟩ := by
 have k := okB_ok h.ok
 have ha := h.abs
 have hs := Dc.split_sub k.can (by rw [h.eq]; exact ha)
 rw [h.eq] at hs
 rw [two_yes h.ok (ok_okB (Dc.trunc_ok ha).1), raw_of, hs]
 rfl
theorem sg_trunc (T : Int) : Dc.sg (Dc.trunc T).1 (Dc.trunc T).2.1 = T.tdiv Dc.U := by
 unfold Dc.sg Dc.trunc
 by_cases h : T.tdiv Dc.U < 0
 ·simp only [decide_eq_true h, if_true]; omega
 ·simp only [decide_eq_false h, Bool.false_eq_true, if_false]; omega
theorem trunc_small {T : Int} (h : Small T) : (Dc.trunc T).2.1 <= 1000000000000000000 := by
 obtain ⟨t0, t1⟩ := h
 obtain ⟨k1, k2, k3, k4⟩ := Dc.tmod_bd T
 show (T.tdiv Dc.U).natAbs <= _
 by_cases h : T.tmod Dc.U < 0
 ·have := (k3 h).1; omega
 ·have := (k4 (by omega)).1; omega
theorem psplit_is (n : Bool) (s : ByteArray) (S T : Int) (hS : Sec n s S T) (w : World) (M : Int) (hV : Vars M w) : Calls Tryz.prog 130 #[.agg #[.bool n, .string s, .int .i64 S]] w fun e w' => e = .returned (.agg (ptL T).toArray) /\ Below w.heap.size w w' := by
 obtain ⟨t, e1, e2, e3⟩ := trunc_text hS.abs
 have k := okB_ok hS.ok
 have ks : s.size <= 1000000 := by have := k.size; omega
 obtain ⟨q1, q2, _⟩ := Dc.tmod_bd T
 have hc : AllX Tryz.prog (envE (.int .i64 M :: spE n s S T t)) (Vars M) spC :=
  ⟨⟨rfl, fk, fun _ L w hV => pOf_any 1 (by decide) (by decide) w hV.pow⟩,
   ⟨rfl, fk, fun _ L w hV => pdiv_is n s S false ⟨#[49]⟩ 0 0 ks (by decide) _ (div_is hS) w hV⟩,
   ⟨rfl, fk, fun _ L w hV => ptext_is (Dc.trunc T).1 (str (Dc.digs (Dc.trunc T).2.1)) ((Dc.trunc T).2.2 : Int) (digs_size60 (Dc.trunc_ok hS.abs).1) t 0 e1 w⟩,
   ⟨rfl, fk, fun _ L w hV => (Tryz.strconv_ParseInt_10_at64_ok t (by omega) (T.tdiv Dc.U) (by rw [parse_int e3 (trunc_small hS.small), sg_trunc]) w).mono fun e w' ⟨h1, h2⟩ => ⟨h1, bytes_below h2⟩⟩,
   ⟨rfl, fk, fun _ L w hV => psub_is n s S (Dc.trunc T).1 (str (Dc.digs (Dc.trunc T).2.1)) ((Dc.trunc T).2.2 : Int) ks (digs_size60 (Dc.trunc_ok hS.abs).1) _ (sub_is hS) w hV⟩,
   ⟨rfl, fk, fun _ L w hV => padd_is (Dc.frac (T.tmod Dc.U)).1 (str (Dc.digs (Dc.frac (T.tmod Dc.U)).2.1)) ((Dc.frac (T.tmod Dc.U)).2.2 : Int) false ⟨#[49]⟩ 0 (digs_size60 (Dc.small_ok (Dc.lt_abs q1 q2)).1) (by decide) _ rfl w hV⟩, trivial⟩
 have h := tree_run (env := spE n s S T t) run_split hc rfl trivial rfl hV
 rw [split_at n s S T M t hS.small] at h
 exact h
end Go.Proofs.YthoojcdjjecogaaGreatDoor
namespace Go.Proofs.YthoojcdjjecogaaGreatDoor
open Go Go.RowKit
open Go.Ex
end Go.Proofs.YthoojcdjjecogaaGreatDoor
