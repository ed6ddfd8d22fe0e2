/-
  Part 18 of the proof: what functions return, and plain facts (Rtext Ptext Msplit). Conditions: each theorem names its own.
-/
import Derived.Test.YthoojcdjjecogaaGreatDoorG13
import Derived.Test.YthoojcdjjecogaaGreatDoorG09
import Derived.Test.YthoojcdjjecogaaGreatDoorG14
import Derived.Test.YthoojcdjjecogaaGreatDoorG17
import Derived.Lib.ParseIntBCases
import Derived.Lib.AtoiErrMem
set_option maxRecDepth 1000000
set_option maxHeartbeats 16000000
namespace Go.Proofs.YthoojcdjjecogaaGreatDoor
open Go Go.RowKit Go.Ex
set_option maxRecDepth 1000000
theorem text_whole {n : Bool} {l : List Nat} {u : ByteArray} (hu : bts u = Dc.wide l 0) (x : ByteArray) (hx : bts x = if n then 45 :: bts u else bts u) : x = str (Dc.txt n l 0) := by
 rw [<- str_bts x, hx, hu]
 unfold Dc.txt Dc.dotted
 rw [if_pos rfl]
theorem text_dotted {n : Bool} {l : List Nat} {S : Nat} (hS : S ≠ 0) {u : ByteArray} (hu : bts u = Dc.wide l S) (x : ByteArray) (hx : bts x = if n then 45 :: ((bts u).take (u.size - S) ++ 46 :: (bts u).drop (u.size - S)) else (bts u).take (u.size - S) ++ 46 :: (bts u).drop (u.size - S)) : x = str (Dc.txt n l S) := by
 rw [<- str_bts x, hx, <- bts_length u, hu]
 unfold Dc.txt Dc.dotted
 rw [if_neg hS]
theorem bts_45 (x : ByteArray) : bts (⟨#[45]⟩ ++ x) = 45 :: bts x := by rw [str_add]; rfl
theorem bts_46 (x y : ByteArray) : bts (x ++ ⟨#[46]⟩ ++ y) = bts x ++ 46 :: bts y := by rw [str_add, str_add, List.append_assoc]; rfl
def ptX (w : X) : X := .sub .i64 (.len w) (.at 3)
def dotX (w : X) : X := .cat (.cat (.cut w (.int 0) (ptX w)) (.str [46])) (.cut w (ptX w) (.len w))
def txL (x : X) : Tree := .node (.at 1) (.leaf (.tup [.xs (.cat (.str [45]) x), it 0])) (.leaf (.tup [.xs x, it 0]))
def txT (w : X) : Tree := .node (.lt (.int 0) (.at 3)) (txL (dotX w)) (txL w)
def txF (w : X) : Fx := [(.lt (ptX w) (.int 0), false), (.lt (.len w) (ptX w), false), (.fits (.cut w (.int 0) (ptX w)) (.str [46]), true), (.fits (.cat (.cut w (.int 0) (ptX w)) (.str [46])) (.cut w (ptX w) (.len w)), true), (.fits (.str [45]) (dotX w), true), (.fits (.str [45]) w, true)]
section
variable {E : Nat -> Value} {w : X} {u : ByteArray} {T : Nat} (hu : w.evS E = u) (h3 : E 3 = .int .i64 (T : Int)) (hT : T <= u.size) (hs : u.size <= 1000)
include hu h3 hT hs
theorem pt_ev : (ptX w).evI E = ((u.size - T : Nat) : Int) := by
 simp only [ptX, X.evI, hu, h3]
 rw [wsub hT hs]
theorem dot_ev : (dotX w).evS E = (u.extract 0 (u.size - T) ++ ⟨#[46]⟩) ++ u.extract (u.size - T) u.size := by
 have h := pt_ev hu h3 hT hs
 simp only [dotX, X.evS, hu, h, X.evI, Int.toNat_natCast]
 rfl
theorem txF_ok : (txF w).Ok E := by
 have h := pt_ev hu h3 hT hs
 have hd := dot_ev hu h3 hT hs
 have z46 : (Ex.bytes [46]).size = 1 := rfl
 have z45 : (Ex.bytes [45]).size = 1 := rfl
 have z46' : (⟨#[46]⟩ : ByteArray).size = 1 := rfl
 refine ⟨decide_eq_false ?_, decide_eq_false ?_, decide_eq_true ?_, decide_eq_true ?_, decide_eq_true ?_, decide_eq_true ?_, trivial⟩
 ·rw [h]; simp only [X.evI]; omega
 ·rw [h]; simp only [X.evI, hu]; omega
 ·simp only [X.evS, hu, h, X.evI, Int.toNat_natCast, ByteArray.size_extract, z46]; omega
 ·simp only [X.evS, hu, h, X.evI, Int.toNat_natCast, ByteArray.size_append, ByteArray.size_extract, z46]; omega
 ·rw [hd]; simp only [X.evS, ByteArray.size_append, ByteArray.size_extract, z45, z46']; omega
 ·simp only [X.evS, hu, z45]; omega
theorem tx_at {n : Bool} {l : List Nat} (h1 : E 1 = .bool n) (hw : bts u = Dc.wide l T) : ((txT w).at E).den L0 E = .tuple #[.string (str (Dc.txt n l T)), .int .i64 0] := by
 have hd := dot_ev hu h3 hT hs
 have e : (txT w).at E = bif decide (0 < (T : Int)) then (bif n then .tup [.xs (.cat (.str [45]) (dotX w)), it 0] else .tup [.xs (dotX w), it 0]) else (bif n then .tup [.xs (.cat (.str [45]) w), it 0] else .tup [.xs w, it 0]) := by
  simp only [txT, txL, Tree.at, X.evB, X.evI, h1, h3]
 rw [e]
 have key : ∀ x : X, x.evS E = str (Dc.txt n l T) -> V.den L0 E (.tup [.xs x, it 0]) = .tuple #[.string (str (Dc.txt n l T)), .int .i64 0] := fun x hx => by
  rw [<- hx]; rfl
 have b1 : bts (u.extract 0 (u.size - T)) = (bts u).take (u.size - T) := by rw [bts_extract, List.drop_zero]
 have b2 : bts (u.extract (u.size - T) u.size) = (bts u).drop (u.size - T) := bts_from u _
 by_cases h0 : T = 0
 ·subst h0
  rw [decide_eq_false (by omega), cond_false]
  cases n
  ·exact key w (text_whole hw _ (by rw [if_neg (by decide), hu]))
  ·exact key _ (text_whole hw _ (by rw [if_pos rfl]; show bts (⟨#[45]⟩ ++ w.evS E) = _; rw [bts_45, hu]))
 ·rw [decide_eq_true (by omega), cond_true]
  cases n
  ·exact key _ (text_dotted h0 hw _ (by rw [if_neg (by decide), hd, bts_46, b1, b2]))
  ·exact key _ (text_dotted h0 hw _ (by rw [if_pos rfl]; show bts (⟨#[45]⟩ ++ (dotX w).evS E) = _; rw [bts_45, hd, bts_46, b1, b2]))
end
def ceX : X := .cat (.at 5) (.at 2)
set_option maxRecDepth 1000000

def pxC : List CallX := [⟨34, [deV 1], [], xi 4⟩, ⟨99, [.str [48], .xi .i64 (.mx (.int 0) (.sub .i64 (.add .i64 (.at 3) (.int 1)) (.len (.at 2))))], [(.eq (.at 4) (.int 0), true)], xs 5⟩]
theorem run_ptext0 : chk (runTr Tryz.prog nG (fun _ => none) (fun _ => true) deT pxC 100 65 [deV 1] hN) (.leaf (.tup [.str [], it 2])) [(.eq (.at 4) (.int 0), false)] = true := by decide +kernel
theorem run_ptext1 : chk (runTr Tryz.prog nG (fun _ => none) (fun _ => true) deT pxC 100 65 [deV 1] hN) (txT ceX) ((.eq (.at 4) (.int 0), true) :: (.fits (.at 5) (.at 2), true) :: txF ceX) = true := by decide +kernel
theorem ptext_is (n : Bool) (s : ByteArray) (S : Int) (hs : s.size <= 1000000) (t : ByteArray) (k : Int) (hr : textR n s S = (t, k)) (w : World) : Calls Tryz.prog 65 #[.agg #[.bool n, .string s, .int .i64 S]] w fun e w' => e = .returned (.tuple #[.string t, .int .i64 k]) /\ Below w.heap.size w w' := by
 have hc : AllX Tryz.prog (envE (.int .i64 0 :: [.bool n, .string s, .int .i64 S, .int .i64 (ckI n s S), .string (zs (S.toNat + 1 - s.size))])) (fun _ => True) pxC := by
  refine ⟨⟨rfl, fk, fun _ L w _ => pcheck_r n s S hs _ rfl w⟩, ⟨rfl, fk, fun hp L w _ => ?_⟩, trivial⟩
  have h1 : decide (ckI n s S = 0) = true := hp.1
  rw [ck_zero] at h1
  have k1 := okB_ok h1
  have := k1.low; have := k1.high; have := k1.size
  refine repeat_v _ _ ?_ (by omega) w
  show (if (0 : Int) < IntKind.i64.wrap (IntKind.i64.wrap (S + 1) - (s.size : Int)) then IntKind.i64.wrap (IntKind.i64.wrap (S + 1) - (s.size : Int)) else 0) = _
  rw [IntKind.wrap_i64, IntKind.wrap_i64]
  split <;> omega
 unfold textR at hr
 cases h1 : okB n s S with
 | false =>
  rw [if_neg (by rw [h1]; decide)] at hr; cases hr
  exact tree_nv run_ptext0 hc rfl ⟨by show decide (ckI n s S = 0) = false; rw [ck_zero, h1], trivial⟩ rfl rfl rfl
 | true =>
  rw [if_pos h1] at hr; cases hr
  have k1 := okB_ok h1
  have hz : decide (ckI n s S = 0) = true := by rw [ck_zero, h1]
  obtain ⟨T, rfl⟩ : ∃ T : Nat, S = T := ⟨S.toNat, by have := k1.low; omega⟩
  have hT : T <= 60 := by have := k1.high; omega
  have z := k1.size
  have zu : (zs (T + 1 - s.size) ++ s).size = (T + 1 - s.size) + s.size := by rw [ByteArray.size_append, zs_size]
  exact tree_nv run_ptext1 hc rfl ⟨hz, decide_eq_true (show (zs _).size + s.size <= 9223372036854775807 by rw [zs_size]; omega), txF_ok (u := zs (T + 1 - s.size) ++ s) (T := T) rfl rfl (by omega) (by omega)⟩ rfl rfl (tx_at (u := zs (T + 1 - s.size) ++ s) (T := T) (n := n) rfl rfl (by omega) (by omega) rfl (by
   unfold Dc.wide; rw [str_add, zs_bts, bts_length]))

theorem parse_digs : ∀ (l : List UInt8) (acc : Nat), (l.map UInt8.toNat).all Dc.dig = true -> acc * 10 ^ l.length + Dc.val (l.map UInt8.toNat) <= 1000000000000000000 -> Lib.parseUintM (2 ^ 64 - 1) acc l = .ok (acc * 10 ^ l.length + Dc.val (l.map UInt8.toNat))
 | [], acc, _, _ => by simp [Lib.parseUintM, Dc.val]
 | c :: r, acc, hd, hs => by
  rw [List.map_cons, List.all_cons, Bool.and_eq_true] at hd
  obtain ⟨h1, h2⟩ := hd
  obtain ⟨d1, d2⟩ := Dc.dig_iff.1 h1
  have e : acc * 10 ^ (c :: r).length + Dc.val ((c :: r).map UInt8.toNat) = (acc * 10 + (c.toNat - 48)) * 10 ^ r.length + Dc.val (r.map UInt8.toNat) := by
   rw [List.map_cons, Dc.val_cons, List.length_map, List.length_cons, Nat.pow_succ, Nat.add_mul, Nat.mul_assoc acc, Nat.mul_comm 10]
   omega
  have hp := Dc.pow10_pos r.length
  have ha : acc * 10 + (c.toNat - 48) <= 1000000000000000000 := by
   have := Nat.le_mul_of_pos_right (acc * 10 + (c.toNat - 48)) hp
   omega
  rw [e]
  unfold Lib.parseUintM
  rw [if_pos ⟨d1, d2⟩, if_neg (by omega), if_neg (by omega)]
  exact parse_digs r _ h2 (by omega)
theorem parse_int {t : ByteArray} {n : Bool} {v : Nat} (hb : bts t = if n then 45 :: Dc.digs v else Dc.digs v) (hv : v <= 1000000000000000000) : Lib.parseIntB 64 t.data.toList = .ok (Dc.sg n v) := by
 have key : ∀ l : List UInt8, l.map UInt8.toNat = Dc.digs v -> Lib.parseUintB 64 l = .ok v := by
  intro l hl
  have hne : l ≠ [] := by rintro rfl; exact Dc.digs_ne v hl.symm
  unfold Lib.parseUintB
  rw [if_neg hne, parse_digs l 0 (by rw [hl]; exact Dc.digs_dig v) (by rw [hl, Dc.val_digs]; omega), hl, Dc.val_digs]
  simp
 unfold bts at hb
 cases hl : t.data.toList with
 | nil =>
  rw [hl] at hb
  cases n
  ·exact absurd hb.symm (Dc.digs_ne v)
  ·cases hb
 | cons c r =>
  rw [hl] at hb
  cases n with
  | true =>
   simp only [if_true, List.map_cons, List.cons.injEq] at hb
   have hc : c = 45 := UInt8.toNat_inj.1 hb.1
   subst hc
   rw [Lib.parseIntB_minus, key r hb.2]
   unfold Lib.signedC Dc.sg
   simp
   omega
  | false =>
   simp only [Bool.false_eq_true, if_false] at hb
   have hd := Dc.digs_dig v
   rw [<- hb, List.map_cons, List.all_cons, Bool.and_eq_true] at hd
   obtain ⟨d1, d2⟩ := Dc.dig_iff.1 hd.1
   rw [Lib.parseIntB_plain 64 c r (by omega) (by omega), key _ hb]
   unfold Lib.signlessC Dc.sg
   simp
   omega
theorem int_txt (n : Bool) (v : Nat) : Dc.txt n (Dc.digs v) 0 = if n then 45 :: Dc.digs v else Dc.digs v := by
 have h := Dc.digs_pos v
 have e : Dc.wide (Dc.digs v) 0 = Dc.digs v := by unfold Dc.wide; rw [show 0 + 1 - (Dc.digs v).length = 0 by omega]; rfl
 unfold Dc.txt Dc.dotted
 rw [if_pos rfl, e]
theorem trunc_text {T : Int} (h : T.natAbs < 10 ^ 75) : ∃ t : ByteArray, textR (Dc.trunc T).1 (str (Dc.digs (Dc.trunc T).2.1)) ((Dc.trunc T).2.2 : Int) = (t, 0) /\ t.size <= 1000000 /\ bts t = if (Dc.trunc T).1 then 45 :: Dc.digs (Dc.trunc T).2.1 else Dc.digs (Dc.trunc T).2.1 := by
 obtain ⟨k1, _⟩ := Dc.trunc_ok h
 have hl : (Dc.digs (Dc.trunc T).2.1).length <= 60 := k1.1
 refine ⟨str (if (Dc.trunc T).1 then 45 :: Dc.digs (Dc.trunc T).2.1 else Dc.digs (Dc.trunc T).2.1), ?_, ?_, ?_⟩
 ·unfold textR
  rw [if_pos (ok_okB k1), bts_digs, <- int_txt]; rfl
 ·rw [str_size]
  split
  ·rw [List.length_cons]; omega
  ·omega
 ·refine bts_str _ fun b hb => ?_
  have hd : ∀ b ∈ Dc.digs (Dc.trunc T).2.1, b < 256 := fun b hb => by
   have := (Dc.dig_iff.1 (List.all_eq_true.1 (Dc.digs_dig _) b hb)).2; omega
  split at hb
  ·rcases List.mem_cons.1 hb with rfl | hb
   ·decide
   ·exact hd b hb
  ·exact hd b hb
structure Sec (n : Bool) (s : ByteArray) (S : Int) (T : Int) : Prop where
 ok : okB n s S = true
 eq : Dc.at_ 60 (rawD n s S) = T
 small : Small T
theorem Sec.abs {n : Bool} {s : ByteArray} {S T : Int} (h : Sec n s S T) : T.natAbs < 10 ^ 75 := by
 obtain ⟨h1, h2⟩ := h.small
 have e := Dc.parts T
 obtain ⟨b0, b1⟩ := Dc.emod_bd T
 have hU := Dc.U_pos
 have u1 : T / Dc.U * Dc.U <= 900000000000000 * Dc.U := Int.mul_le_mul_of_nonneg_right h2 (Int.le_of_lt hU)
 have u2 : -900000000000000 * Dc.U <= T / Dc.U * Dc.U := Int.mul_le_mul_of_nonneg_right h1 (Int.le_of_lt hU)
 have hUv : Dc.U = 1000000000000000000000000000000000000000000000000000000000000 := by decide
 generalize T / Dc.U = q at *
 generalize T % Dc.U = r at *
 have hq : ((10 : Nat) ^ 75) = 1000000000000000000000000000000000000000000000000000000000000000000000000000 := by decide
 rw [hq]
 rw [hUv] at u1 u2 b1 e
 have a1 : T < 1000000000000000000000000000000000000000000000000000000000000000000000000000 := by omega
 have a2 : -1000000000000000000000000000000000000000000000000000000000000000000000000000 < T := by omega
 clear u1 u2 e b0 b1 h1 h2 hU
 rcases Int.natAbs_eq T with h | h <;> omega
def spE (n : Bool) (s : ByteArray) (S T : Int) (t : ByteArray) : List Value := [.bool n, .string s, .int .i64 S] ++ decL (Dc.trunc T) ++ [.int .i64 0, .string t, .int .i64 0, .int .i64 (T.tdiv Dc.U)] ++ decL (Dc.frac (T.tmod Dc.U)) ++ [.int .i64 0] ++ resL (twoR Dc.addD (Dc.frac (T.tmod Dc.U)).1 (str (Dc.digs (Dc.frac (T.tmod Dc.U)).2.1)) ((Dc.frac (T.tmod Dc.U)).2.2 : Int) false ⟨#[49]⟩ 0)
def trSplit : Tree := (.node (.at 11) (.leaf (.agg [(.xi .i64 (.sub .i64 (.at 10) (.int 1))), (.xb (.at 15)), (.xs (.at 16)), (.xi .i64 (.at 17))])) (.leaf (.agg [(.xi .i64 (.at 10)), (.bool false), (.xs (.at 12)), (.xi .i64 (.at 13))])))
theorem split_at (n : Bool) (s : ByteArray) (S T M : Int) (t : ByteArray) (hT : Small T) : (trSplit.at (envE (.int .i64 M :: spE n s S T t))).den L0 (envE (.int .i64 M :: spE n s S T t)) = .agg (ptL T).toArray := by
 obtain ⟨t0, t1⟩ := hT
 obtain ⟨k1, k2, k3, k4⟩ := Dc.tmod_bd T
 have hn := Dc.split_neg T
 have e : trSplit.at (envE (.int .i64 M :: spE n s S T t)) = bif (Dc.frac (T.tmod Dc.U)).1 then .agg [(.xi .i64 (.sub .i64 (.at 10) (.int 1))), (.xb (.at 15)), (.xs (.at 16)), (.xi .i64 (.at 17))] else .agg [(.xi .i64 (.at 10)), (.bool false), (.xs (.at 12)), (.xi .i64 (.at 13))] := rfl
 rw [e, hn]
 by_cases h : T.tmod Dc.U < 0
 ·obtain ⟨p1, p2⟩ := k3 h
  have ha := two_some (f := Dc.addD) (a := Dc.frac (T.tmod Dc.U)) (b := (false, 1, 0)) (Dc.small_ok (Dc.lt_abs k1 k2)).1 Dc.one_ok (Dc.split_add h)
  rw [one_str] at ha
  rw [decide_eq_true h, cond_true]
  show Value.agg [.int .i64 (IntKind.i64.wrap (T.tdiv Dc.U - 1)), .bool (twoR Dc.addD _ _ _ _ _ _).n, .string (twoR Dc.addD _ _ _ _ _ _).s, .int .i64 (twoR Dc.addD _ _ _ _ _ _).S].toArray = _
  rw [w64 (by omega) (by omega)]
  unfold ptL decL
  rw [p1]
  change twoR Dc.addD _ _ _ false ⟨#[49]⟩ 0 = _ at ha
  rw [ha]
 ·obtain ⟨p1, p2⟩ := k4 (by omega)
  rw [decide_eq_false h, cond_false]
  rw [decide_eq_false h] at hn
  show Value.agg [.int .i64 (T.tdiv Dc.U), .bool false, .string (str (Dc.digs (Dc.frac (T.tmod Dc.U)).2.1)), .int .i64 ((Dc.frac (T.tmod Dc.U)).2.2 : Int)].toArray = _
  unfold ptL decL
  rw [p1, p2, hn]
def spC : List CallX := [⟨108, [it 1], [], one⟩, ⟨147, [deV 1, one, it 0], [], .tup [deV 4, xi 7]⟩, ⟨65, [deV 4], [], .tup [xs 8, xi 9]⟩, ⟨148, [xs 8, it 10, it 64], [], .tup [xi 10, .nili]⟩, ⟨149, [deV 1, deV 4], [], .tup [deV 11, xi 14]⟩, ⟨150, [deV 11, one], [], .tup [deV 15, xi 18]⟩]
theorem run_split : chk (runTr Tryz.prog nG (fun _ => none) gd moT spC 100 130 [deV 1] h0) trSplit [] = true := by decide +kernel
theorem bytes_below {w w' : World} (h : w' = w \/ ∃ t, w' = Lib.bytesWorld w 5 t) : Below w.heap.size w w' := by
 rcases h with rfl | ⟨t, rfl⟩
 ·exact Below.refl _ _
 ·exact Lib.bytesWorld_below _ _ _
theorem div_is {n : Bool} {s : ByteArray} {S T : Int} (h : Sec n s S T) : divR n s S false ⟨#[49]⟩ 0 0 = ⟨(Dc.trunc T).1, str (Dc.digs (Dc.trunc T).2.1), ((Dc.trunc T).2.2 : Int), 0⟩ := by
 have k := okB_ok h.ok
 have h1 : okB false ⟨#[49]⟩ 0 = true := by decide
 have ha := h.abs
 unfold divR
 rw [if_pos ⟨h.ok, h1, by decide, by decide, by decide⟩]
 rw [show rawD false ⟨#[49]⟩ 0 = (false, 1, 0) from rfl, show (0 : Int).toNat = 0 from rfl, Dc.split_div k.can (by rw [h.eq]; exact ha), h.eq]
 rfl
theorem sub_is {n : Bool} {s : ByteArray} {S T : Int} (h : Sec n s S T) : twoR Dc.subD n s S (Dc.trunc T).1 (str (Dc.digs (Dc.trunc T).2.1)) ((Dc.trunc T).2.2 : Int) = ⟨(Dc.frac (T.tmod Dc.U)).1, str (Dc.digs (Dc.frac (T.tmod Dc.U)).2.1), ((Dc.frac (T.tmod Dc.U)).2.2 : Int), 0⟩ := by
 have k := okB_ok h.ok
 have ha := h.abs
 have hs := Dc.split_sub k.can (by rw [h.eq]; exact ha)
 rw [h.eq] at hs
 rw [two_yes h.ok (ok_okB (Dc.trunc_ok ha).1), raw_of, hs]
 rfl
theorem sg_trunc (T : Int) : Dc.sg (Dc.trunc T).1 (Dc.trunc T).2.1 = T.tdiv Dc.U := by
 unfold Dc.sg Dc.trunc
 by_cases h : T.tdiv Dc.U < 0
 ·simp only [decide_eq_true h, if_true]; omega
 ·simp only [decide_eq_false h, Bool.false_eq_true, if_false]; omega
theorem trunc_small {T : Int} (h : Small T) : (Dc.trunc T).2.1 <= 1000000000000000000 := by
 obtain ⟨t0, t1⟩ := h
 obtain ⟨k1, k2, k3, k4⟩ := Dc.tmod_bd T
 show (T.tdiv Dc.U).natAbs <= _
 by_cases h : T.tmod Dc.U < 0
 ·have := (k3 h).1; omega
 ·have := (k4 (by omega)).1; omega
theorem psplit_is (n : Bool) (s : ByteArray) (S T : Int) (hS : Sec n s S T) (w : World) (M : Int) (hV : Vars M w) : Calls Tryz.prog 130 #[.agg #[.bool n, .string s, .int .i64 S]] w fun e w' => e = .returned (.agg (ptL T).toArray) /\ Below w.heap.size w w' := by
 obtain ⟨t, e1, e2, e3⟩ := trunc_text hS.abs
 have k := okB_ok hS.ok
 have ks : s.size <= 1000000 := by have := k.size; omega
 obtain ⟨q1, q2, _⟩ := Dc.tmod_bd T
 have hc : AllX Tryz.prog (envE (.int .i64 M :: spE n s S T t)) (Vars M) spC :=
  ⟨⟨rfl, fk, fun _ L w hV => pOf_any 1 (by decide) (by decide) w hV.pow⟩,
   ⟨rfl, fk, fun _ L w hV => pdiv_is n s S false ⟨#[49]⟩ 0 0 ks (by decide) _ (div_is hS) w hV⟩,
   ⟨rfl, fk, fun _ L w hV => ptext_is (Dc.trunc T).1 (str (Dc.digs (Dc.trunc T).2.1)) ((Dc.trunc T).2.2 : Int) (digs_size60 (Dc.trunc_ok hS.abs).1) t 0 e1 w⟩,
   ⟨rfl, fk, fun _ L w hV => (Tryz.strconv_ParseInt_10_at64_ok t (by omega) (T.tdiv Dc.U) (by rw [parse_int e3 (trunc_small hS.small), sg_trunc]) w).mono fun e w' ⟨h1, h2⟩ => ⟨h1, bytes_below h2⟩⟩,
   ⟨rfl, fk, fun _ L w hV => psub_is n s S (Dc.trunc T).1 (str (Dc.digs (Dc.trunc T).2.1)) ((Dc.trunc T).2.2 : Int) ks (digs_size60 (Dc.trunc_ok hS.abs).1) _ (sub_is hS) w hV⟩,
   ⟨rfl, fk, fun _ L w hV => padd_is (Dc.frac (T.tmod Dc.U)).1 (str (Dc.digs (Dc.frac (T.tmod Dc.U)).2.1)) ((Dc.frac (T.tmod Dc.U)).2.2 : Int) false ⟨#[49]⟩ 0 (digs_size60 (Dc.small_ok (Dc.lt_abs q1 q2)).1) (by decide) _ rfl w hV⟩, trivial⟩
 have h := tree_run (env := spE n s S T t) run_split hc rfl trivial rfl hV
 rw [split_at n s S T M t hS.small] at h
 exact h
end Go.Proofs.YthoojcdjjecogaaGreatDoor
