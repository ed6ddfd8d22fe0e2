/-
  Part 42 of the proof: what functions return, and plain facts (Mday Mlaws3). Conditions: each theorem names its own.
-/
import Derived.Test.YtckodhldimhbfaaGreatDoorG28
import Derived.Test.YtckodhldimhbfaaGreatDoorG38
set_option maxRecDepth 1000000
set_option maxHeartbeats 16000000
namespace Go.Proofs.YtckodhldimhbfaaGreatDoor
open Go Go.RowKit Go.Ex
namespace Mo
theorem at_parts {s w : Int} : (s + Dc.U * w) / Dc.U = s / Dc.U + w /\ (s + Dc.U * w) % Dc.U = s % Dc.U := by
 have hU := Dc.U_pos
 exact ⟨Int.add_mul_ediv_left s w (by omega), Int.add_mul_emod_self_left s Dc.U w⟩
theorem at_whole {w : Int} : (Dc.U * w) / Dc.U = w /\ (Dc.U * w) % Dc.U = 0 := by
 have hU := Dc.U_pos
 exact ⟨Int.mul_ediv_cancel_left w (by omega), Int.mul_emod_right _ _⟩
theorem two_add {N : Nat} (hN : Dc.ok (false, N, 0)) {b : Dc.D} (hb : Dc.ok b) : twoR Dc.addD false (str (Dc.digs N)) 0 b.1 (str (Dc.digs b.2.1)) (b.2.2 : Int) = resOf (Dc.addD (false, N, 0) b) := by
 have h := two_yes (f := Dc.addD) (ok_okB (a := (false, N, 0)) hN) (ok_okB hb)
 rw [raw_of (a := (false, N, 0)), raw_of] at h
 exact h
theorem sec_back {x : Mo} (h : x.secB = true) {T : Int} (h1 : T / Dc.U % 86400 % 60 = x.secT / Dc.U) (h2 : T % Dc.U = x.secT % Dc.U) : secOf T = ⟨x.n, x.s, x.S, 0⟩ := by
 obtain ⟨k, hn, s0, s1⟩ := sec_lt h
 have ko := okB_ok k
 obtain ⟨q, q0, q1⟩ := sec_small s0 s1
 obtain ⟨b0, b1⟩ := Dc.emod_bd x.secT
 have hi : Dc.ok (false, (restOf T % 60).natAbs, 0) := by
  have e : restOf T % 60 = x.secT / Dc.U := h1
  have := Dc.int_ok (k := x.secT / Dc.U) (by omega)
  rw [decide_eq_false (by omega)] at this
  rw [e]; exact this
 have hf := Dc.frac_ok b0 b1
 have ha : Dc.at_ 60 (false, (restOf T % 60).natAbs, 0) = x.secT / Dc.U * Dc.U := by
  have e : restOf T % 60 = x.secT / Dc.U := h1
  have := Dc.at_int' (x.secT / Dc.U)
  rw [decide_eq_false (by omega)] at this
  rw [e]; exact this
 unfold secOf
 rw [h2, two_add hi hf.1, Dc.add60 hi hf.1, ha, hf.2.2, Dc.parts]
 rw [show Dc.canI x.secT 60 = some (rawD x.n x.s x.S) from Dc.back60 ko.can]
 exact raw_res ko x.n
def plain (x : Mo) : Mo := { x with z := false, o := 0 }
theorem of_back {x : Mo} (h : Ok x) (T : Int) (hk : x.k ≠ 2 -> T / Dc.U / 86400 = x.day) (ht : x.k ≠ 1 -> T / Dc.U % 86400 = x.secT / Dc.U + 3600 * x.h + 60 * x.i /\ T % Dc.U = x.secT % Dc.U) : ofM x.k T = (plain x, 0) := by
 have hdate : x.k ≠ 2 -> dateOf (dayOf T) = (counted x.y, x.m, x.d) /\ called (counted x.y) = x.y /\ -4000000 <= dayOf T /\ dayOf T <= 4000000 /\ -9999 <= x.y /\ x.y <= 9999 := fun h2 => by
  have hd := ok_date h h2
  have hb := day_bd hd
  have hq : dayOf T = x.day := hk h2
  obtain ⟨a1, a2, a3, a4, a5, a6, a7⟩ := hd
  exact ⟨dateOf_eq ⟨a4, a5, a6, a7, hq⟩, called_counted a1, by omega, by omega, a2, a3⟩
 have hsec : x.k ≠ 1 -> secOf T = ⟨x.n, x.s, x.S, 0⟩ /\ restOf T / 3600 = x.h /\ restOf T / 60 % 60 = x.i := fun h1 => by
  obtain ⟨b1, b2, b3, b4, b5⟩ := ok_time h h1
  obtain ⟨e1, e2⟩ := ht h1
  obtain ⟨k, hn, s0, s1⟩ := sec_lt b1
  obtain ⟨q, q0, q1⟩ := sec_small s0 s1
  refine ⟨sec_back b1 (by omega) e2, ?_, ?_⟩ <;> unfold restOf <;> omega
 unfold ofM
 rw [if_neg (fun c => by
  obtain ⟨a, b, c1, c2, c3, c4⟩ := hdate c.1
  rw [a, b] at c; omega), if_neg (fun c => c.2 (by rw [(hsec c.1).1]))]
 have b5 := h.2.2.2.2.1
 have b6 := h.2.2.2.2.2
 have hz : x.k = 2 -> x.y = 0 /\ x.m = 0 /\ x.d = 0 := fun e => by rw [if_pos e] at b5; exact b5
 have hy : x.k = 1 -> x.h = 0 /\ x.i = 0 /\ x.n = false /\ x.s = ⟨#[]⟩ /\ x.S = 0 := fun e => by rw [if_pos e] at b6; exact b6
 obtain ⟨k, y, m, d, hh, i, n, s, S, z, o⟩ := x
 simp only [plain] at *
 by_cases c2 : k = 2
 ·obtain ⟨rfl, rfl, rfl⟩ := hz c2
  have c1 : k ≠ 1 := by omega
  obtain ⟨e1, e2, e3⟩ := hsec c1
  simp only [if_pos c2, if_neg c1, e1, e2, e3]
 ·obtain ⟨a, b, _⟩ := hdate c2
  by_cases c1 : k = 1
  ·obtain ⟨rfl, rfl, rfl, rfl, rfl⟩ := hy c1
   simp only [if_neg c2, if_pos c1, a, b]
  ·obtain ⟨e1, e2, e3⟩ := hsec c1
   simp only [if_neg c2, if_neg c1, a, b, e1, e2, e3]
theorem TL_parts {x : Mo} (h : Ok x) (g : Int) : (x.k ≠ 2 -> (x.TL + Dc.U * (86400 * g)) / Dc.U / 86400 = x.day + g) /\ (x.k ≠ 1 -> (x.TL + Dc.U * (86400 * g)) / Dc.U % 86400 = x.secT / Dc.U + 3600 * x.h + 60 * x.i /\ (x.TL + Dc.U * (86400 * g)) % Dc.U = x.secT % Dc.U) := by
 by_cases c1 : x.k = 1
 ·refine ⟨fun c2 => ?_, fun q => absurd c1 q⟩
  obtain ⟨e1, e2, _⟩ := ok_notime h c1
  have e : x.TL + Dc.U * (86400 * g) = Dc.U * (86400 * x.day + 86400 * g) := by
   unfold TL; rw [if_pos c1, if_neg c2, e1, e2, show (3600 : Int) * 0 + 60 * 0 + 86400 * x.day = 86400 * x.day by omega, Int.mul_add Dc.U (86400 * x.day)]; omega
  rw [e, at_whole.1]; omega
 ·obtain ⟨b1, b2, b3, b4, b5⟩ := ok_time h c1
  obtain ⟨k, hn, s0, s1⟩ := sec_lt b1
  obtain ⟨q, q0, q1⟩ := sec_small s0 s1
  have e : x.TL + Dc.U * (86400 * g) = x.secT + Dc.U * (3600 * x.h + 60 * x.i + (if x.k = 2 then 0 else 86400 * x.day) + 86400 * g) := by
   unfold TL; rw [if_neg c1, Int.mul_add Dc.U _ (86400 * g)]; omega
  rw [e, at_parts.1, at_parts.2]
  refine ⟨fun c2 => ?_, fun _ => ⟨?_, rfl⟩⟩
  ·rw [if_neg c2]; omega
  ·split <;> omega
theorem later_zero {x : Mo} (h : Ok x) : later x 0 = x := by
 unfold later
 by_cases c2 : x.k = 2
 ·rw [if_pos c2]
 ·rw [if_neg c2]
  obtain ⟨a1, a2, a3, a4, a5, a6, a7⟩ := ok_date h c2
  have cb := cnt_bd (ok_date h c2)
  have e1 : mY x 0 = counted x.y := by unfold mY mN; omega
  have e2 : mN x 0 % 12 + 1 = x.m := by unfold mN; omega
  have e3 : min x.d (dim (counted x.y) x.m) = x.d := by omega
  rw [e1, e2, e3, called_counted a1]
def zeroS : ByteArray := ⟨#[48]⟩
def dayS : ByteArray := ⟨#[56, 54, 52, 48, 48]⟩
theorem zero_raw : rawD false zeroS 0 = (false, 0, 0) := by decide +kernel
theorem day_raw : rawD false dayS 0 = (false, 86400, 0) := by decide +kernel
theorem zero_ck : ckI false zeroS 0 = 0 /\ (cmpR false zeroS 0 false trill 0).1 < 0 := by decide +kernel
theorem day_ck : ckI false dayS 0 = 0 /\ (cmpR false dayS 0 false trill 0).1 < 0 := by decide +kernel
theorem okB_of {x : Mo} (h : Ok x) : okB x = true := decide_eq_true h
theorem add_is {x : Mo} (h : Ok x) {s : ByteArray} (h1 : ckI false s 0 = 0) (h2 : (cmpR false s 0 false trill 0).1 < 0) : addM x 0 false s 0 = if (ofM x.k (x.TL + Dc.at_ 60 (rawD false s 0))).2 ≠ 0 then (none, (ofM x.k (x.TL + Dc.at_ 60 (rawD false s 0))).2) else ({ (ofM x.k (x.TL + Dc.at_ 60 (rawD false s 0))).1 with z := x.z, o := x.o }, 0) := by
 unfold addM
 rw [if_neg (fun c => by
  rcases c with c | c | c | c | c
  ·rw [okB_of h] at c; cases c
  ·exact c h1
  ·omega
  ·omega
  ·omega), if_neg (by omega)]
 unfold sumT
 rw [later_zero h, if_neg (fun c => by
  have := ok_date h c.1
  obtain ⟨a1, a2, a3, _⟩ := this
  omega)]
theorem add_zero {x : Mo} (h : Ok x) : addM x 0 false zeroS 0 = (x, 0) := by
 rw [add_is h zero_ck.1 zero_ck.2, zero_raw, show x.TL + Dc.at_ 60 (false, 0, 0) = x.TL + Dc.U * (86400 * 0) by rw [show Dc.at_ 60 (false, 0, 0) = 0 from by decide +kernel]; omega]
 obtain ⟨t1, t2⟩ := TL_parts h 0
 rw [of_back h _ (fun c => by rw [t1 c]; omega) t2, if_neg (by simp)]
 rfl
theorem day_at : Dc.at_ 60 (false, 86400, 0) = Dc.U * (86400 * 1) := by decide +kernel
theorem add_time {x : Mo} (h : Ok x) (hk : x.k = 2) : addM x 0 false dayS 0 = (x, 0) := by
 rw [add_is h day_ck.1 day_ck.2, day_raw, day_at]
 obtain ⟨t1, t2⟩ := TL_parts h 1
 rw [of_back h _ (fun c => absurd hk c) t2, if_neg (by simp)]
 rfl
structure Next (x y : Mo) : Prop where
 ok : Ok y
 k : y.k = x.k
 z : y.z = x.z
 day : y.day = x.day + 1
 later : y.TA = x.TA + Dc.U * 86400
theorem add_day {x : Mo} (h : Ok x) (hk : x.k ≠ 2) : (∃ y, addM x 0 false dayS 0 = (y, 0) /\ Next x y) \/ ((addM x 0 false dayS 0).2 = 7 /\ x.y = 9999 /\ x.m = 12 /\ x.d = 31) := by
 rw [add_is h day_ck.1 day_ck.2, day_raw, day_at]
 obtain ⟨t1, t2⟩ := TL_parts h 1
 have t1 := t1 hk
 have hd := ok_date h hk
 have cb := cnt_bd hd
 have hq := dateOf_is (x.day + 1)
 obtain ⟨p, hp⟩ : ∃ p, dateOf (x.day + 1) = p := ⟨_, rfl⟩
 rw [hp] at hq
 obtain ⟨Y, m, d⟩ := p
 simp only at hq
 obtain ⟨a1, a2, a3, a4, a5, a6, a7⟩ := hd
 have hx : IsDate x.day (counted x.y) x.m x.d := ⟨a4, a5, a6, a7, rfl⟩
 obtain ⟨y1, y2⟩ := date_year hx
 obtain ⟨z1, z2⟩ := date_year hq
 have lo : counted x.y <= Y := by
  rcases Int.lt_or_le Y (counted x.y) with c | c
  ·have := bef_mono (a := Y) (b := counted x.y - 1) (by omega); omega
  ·exact c
 have hi : Y <= counted x.y + 1 := by
  rcases Int.lt_or_le (counted x.y + 1) Y with c | c
  ·have := bef_mono (a := counted x.y + 1) (b := Y - 1) (by omega)
   have := lg_01 (counted x.y + 1)
   have e := bef_succ (counted x.y + 1)
   rw [show counted x.y + 1 - 1 = counted x.y by omega] at e
   omega
  ·exact c
 by_cases hY : Y <= 9999
 ·left
  have cY : -9999 <= called Y /\ called Y <= 9999 := by unfold called; split <;> omega
  have hok : Ok { x with y := called Y, m := m, d := d } := by
   obtain ⟨b1, b2, b3, b4, b5, b6⟩ := h
   refine ⟨b1, b2, b3, b4, ?_, b6⟩
   rw [if_neg hk]
   exact ⟨called_ne Y, cY.1, cY.2, hq.m1, hq.m2, hq.d1, by show d <= dim (counted (called Y)) m; rw [counted_called]; exact hq.d2⟩
  have hday : ({ x with y := called Y, m := m, d := d } : Mo).day = x.day + 1 := by
   show dayN (counted (called Y)) m d = _
   rw [counted_called]; exact hq.eq.symm
  refine ⟨{ x with y := called Y, m := m, d := d }, ?_, hok, rfl, rfl, hday, ?_⟩
  ·have e := of_back hok (x.TL + Dc.U * (86400 * 1)) (fun _ => by rw [t1, hday]) t2
   change ofM x.k (x.TL + Dc.U * (86400 * 1)) = _ at e
   rw [e, if_neg (by simp)]
   rfl
  ·show (if x.k = 1 then 0 else x.secT) + Dc.U * (3600 * x.h + 60 * x.i + (if x.k = 2 then 0 else 86400 * ({ x with y := called Y, m := m, d := d } : Mo).day)) - Dc.U * (60 * x.o) = (if x.k = 1 then 0 else x.secT) + Dc.U * (3600 * x.h + 60 * x.i + (if x.k = 2 then 0 else 86400 * x.day)) - Dc.U * (60 * x.o) + Dc.U * 86400
   rw [if_neg hk, if_neg hk, hday, show 3600 * x.h + 60 * x.i + 86400 * (x.day + 1) = (3600 * x.h + 60 * x.i + 86400 * x.day) + 86400 by omega, Int.mul_add Dc.U _ 86400]
   omega
 ·right
  have cx : counted x.y = 9999 /\ Y = 10000 := by omega
  have hdo : dayOf (x.TL + Dc.U * (86400 * 1)) = x.day + 1 := t1
  refine ⟨?_, ?_⟩
  ·have e : ofM x.k (x.TL + Dc.U * (86400 * 1)) = (none, 7) := by
    unfold ofM
    rw [if_pos ⟨hk, by rw [hdo, hp]; right; right; right; show 9999 < called Y; unfold called; split <;> omega⟩]
   rw [e]; rfl
  ·have e13 := cum_end (counted x.y)
   have e12 := cum_succ (counted x.y) 12 (by decide) (by decide)
   have e31 : dim (counted x.y) 12 = 31 := by unfold dim; simp
   have eb := bef_succ (counted x.y)
   have ez : bef (Y - 1) = bef (counted x.y) := by rw [cx.2, cx.1]; rfl
   have hl : IsDate x.day (counted x.y) 12 31 := ⟨by decide, by decide, by decide, by omega, by unfold dayN; rw [show (12 : Int) + 1 = 13 from rfl] at e12; omega⟩
   obtain ⟨_, em, ed⟩ := date_unique hx hl
   exact ⟨by have := cx.1; unfold counted at this; split at this <;> omega, em, ed⟩
theorem of_both {T : Int} (h : (ofM 3 T).2 = 0) : Ok (ofM 3 T).1 /\ (ofM 3 T).1.TL = T /\ (ofM 3 T).1.k = 3 /\ (ofM 3 T).1.o = 0 := by
 have hq := dateOf_is (dayOf T)
 have hU := Dc.U_pos
 obtain ⟨b0, b1⟩ := Dc.emod_bd T
 have r0 : 0 <= restOf T /\ restOf T < 86400 := by unfold restOf; omega
 unfold ofM at h ⊢
 by_cases c1 : (3 : Int) ≠ 2 /\ (dayOf T < -4000000 \/ 4000000 < dayOf T \/ called (dateOf (dayOf T)).1 < -9999 \/ 9999 < called (dateOf (dayOf T)).1)
 ·rw [if_pos c1] at h; cases h
 rw [if_neg c1] at h ⊢
 by_cases c2 : (3 : Int) ≠ 1 /\ (secOf T).k ≠ 0
 ·rw [if_pos c2] at h; exact absurd h c2.2
 rw [if_neg c2] at h ⊢
 have c2 : (secOf T).k = 0 := by
  rcases Int.lt_trichotomy (secOf T).k 0 with c | c | c
  ·exact absurd ⟨by decide, by omega⟩ c2
  ·exact c
  ·exact absurd ⟨by decide, by omega⟩ c2
 have hi : Dc.ok (false, (restOf T % 60).natAbs, 0) := by
  have := Dc.int_ok (k := restOf T % 60) (by omega)
  rwa [decide_eq_false (by omega)] at this
 have hf := Dc.frac_ok b0 b1
 have ha : Dc.at_ 60 (false, (restOf T % 60).natAbs, 0) = restOf T % 60 * Dc.U := by
  have := Dc.at_int' (restOf T % 60)
  rwa [decide_eq_false (by omega)] at this
 have es : secOf T = resOf (Dc.canI (restOf T % 60 * Dc.U + T % Dc.U) 60) := by
  unfold secOf
  rw [two_add hi hf.1, Dc.add60 hi hf.1, ha, hf.2.2]
 cases hc : Dc.canI (restOf T % 60 * Dc.U + T % Dc.U) 60 with
 | none => rw [es, hc] at c2; cases c2
 | some a =>
  rw [es, hc]
  obtain ⟨k1, k2, k3⟩ := Dc.canI_at hc
  have lo : 0 <= restOf T % 60 * Dc.U := Int.mul_nonneg (by omega) (by omega)
  have hi' : restOf T % 60 * Dc.U <= 59 * Dc.U := Int.mul_le_mul_of_nonneg_right (by omega) (by omega)
  have hn : a.1 = false := by
   cases e : a.1 with
   | false => rfl
   | true => have := (Dc.at_neg (K := 60) k1).2 e; omega
  have hr : rawD a.1 (str (Dc.digs a.2.1)) (a.2.2 : Int) = a := raw_of
  obtain ⟨p, hp⟩ : ∃ p, dateOf (dayOf T) = p := ⟨_, rfl⟩
  rw [hp] at hq c1 ⊢
  have cY : -9999 <= called p.1 /\ called p.1 <= 9999 := by
   refine ⟨Int.not_lt.1 fun q => c1 ⟨by decide, .inr (.inr (.inl q))⟩, Int.not_lt.1 fun q => c1 ⟨by decide, .inr (.inr (.inr q))⟩⟩
  have hday : dayN (counted (called p.1)) p.2.1 p.2.2 = dayOf T := by rw [counted_called]; exact hq.eq.symm
  have h6 : Dc.ok (false, 60, 0) := Dc.int_ok (k := 60) (by decide)
  show Ok (⟨3, called p.1, p.2.1, p.2.2, restOf T / 3600, restOf T / 60 % 60, a.1, str (Dc.digs a.2.1), (a.2.2 : Int), false, 0⟩ : Mo) /\ Mo.TL (⟨3, called p.1, p.2.1, p.2.2, restOf T / 3600, restOf T / 60 % 60, a.1, str (Dc.digs a.2.1), (a.2.2 : Int), false, 0⟩ : Mo) = T /\ (3 : Int) = 3 /\ (0 : Int) = 0
  refine ⟨⟨.inr (.inr rfl), show (-840 : Int) <= 0 by decide, show (0 : Int) <= 840 by decide, fun _ => rfl, ?_, ?_⟩, ?_, rfl, rfl⟩
  ·rw [if_neg (show ¬ (3 : Int) = 2 by decide)]
   exact ⟨called_ne _, cY.1, cY.2, hq.m1, hq.m2, hq.d1, by show p.2.2 <= dim (counted (called p.1)) p.2.1; rw [counted_called]; exact hq.d2⟩
  ·rw [if_neg (show ¬ (3 : Int) = 1 by decide)]
   refine ⟨?_, show 0 <= restOf T / 3600 by omega, show restOf T / 3600 <= 23 by omega, show 0 <= restOf T / 60 % 60 by omega, show restOf T / 60 % 60 <= 59 by omega⟩
   show (Go.Proofs.YtckodhldimhbfaaGreatDoor.okB a.1 (str (Dc.digs a.2.1)) (a.2.2 : Int) && (!a.1 && decide ((cmpR a.1 (str (Dc.digs a.2.1)) (a.2.2 : Int) false sixty 0).1 < 0))) = true
   have q : (cmpR a.1 (str (Dc.digs a.2.1)) (a.2.2 : Int) false sixty 0).1 = -1 := by
    unfold cmpR
    rw [if_pos ⟨ok_okB k1, by decide +kernel⟩, raw_of, sixty_raw, Dc.cmp60 k1 h6, k3, show Dc.at_ 60 (false, 60, 0) = 60 * Dc.U from rfl, if_pos (by omega)]
   rw [ok_okB k1, q, hn]; rfl
  ·show (if (3 : Int) = 1 then 0 else Dc.at_ 60 (rawD a.1 (str (Dc.digs a.2.1)) (a.2.2 : Int))) + Dc.U * (3600 * (restOf T / 3600) + 60 * (restOf T / 60 % 60) + (if (3 : Int) = 2 then 0 else 86400 * dayN (counted (called p.1)) p.2.1 p.2.2)) = T
   rw [if_neg (by decide), if_neg (by decide), hday, raw_of, k3]
   have e : 3600 * (restOf T / 3600) + 60 * (restOf T / 60 % 60) + 86400 * dayOf T = T / Dc.U - restOf T % 60 := by unfold restOf dayOf; omega
   rw [e, Int.mul_sub]
   have e1 := Dc.parts T
   rw [Int.mul_comm Dc.U (T / Dc.U), Int.mul_comm Dc.U (restOf T % 60)]
   omega
theorem normal_is {x : Mo} (h : Ok x) (hk : x.k = 3) (hz : x.z = true) (h0 : (normalM x).2 = 0) : Ok (normalM x).1 /\ equalM (normalM x).1 x = (true, 0) /\ (normalM x).1.o = 0 /\ (normalM x).1.z = true := by
 unfold normalM at h0 ⊢
 have hc : okB x = true /\ x.z = true /\ x.k ≠ 1 := ⟨okB_of h, hz, by omega⟩
 rw [if_pos hc] at h0 ⊢
 rw [hk] at h0 ⊢
 obtain ⟨r1, r2, r3, r4⟩ := of_both h0
 rw [decide_eq_true h0]
 have hok : Ok { (ofM 3 x.TA).1 with z := true } := by
  obtain ⟨b1, b2, b3, b4, b5, b6⟩ := r1
  exact ⟨b1, b2, b3, (fun q => by cases q), b5, b6⟩
 refine ⟨hok, ?_, r4, rfl⟩
 unfold equalM
 rw [if_pos ⟨okB_of hok, okB_of h, r3.trans hk.symm⟩, decide_eq_true]
 refine ⟨hz.symm, ?_⟩
 show Mo.TL (ofM 3 x.TA).1 - Dc.U * (60 * (ofM 3 x.TA).1.o) = x.TA
 rw [r2, r4]; omega
end Mo
end Go.Proofs.YtckodhldimhbfaaGreatDoor
namespace Go.Proofs.YtckodhldimhbfaaGreatDoor
open Go Go.RowKit Go.Ex
set_option maxRecDepth 1000000

def dyP : Fx := [upTo 8, (.eq (.at 12) (.int 0), true)]
def dyN : Fx := [upTo 8, (.eq (.at 12) (.int 0), true), (.eq (.at 1) (.int 2), false)]
def dyQ : Fx := [upTo 8, (.eq (.at 12) (.int 0), true), (.eq (.at 1) (.int 2), false), (.eq (.at 24) (.int 0), true)]
def dyR : Fx := [upTo 8, (.eq (.at 12) (.int 0), true), (.eq (.at 1) (.int 3), true), (.at 10, true)]
def zeD : V := .agg [.bool false, .str [48], it 0]
def dayD : V := .agg [.bool false, .str [56, 54, 52, 48, 48], it 0]
def dyC : List CallX := [⟨8, [], [], .bool true⟩, ⟨15, [moV 1], [upTo 8], xi 12⟩, ⟨9, [moV 1, it 0, zeD], dyP, .tup [moV 1, it 0]⟩, ⟨9, [moV 1, it 0, dayD], [upTo 8, (.eq (.at 12) (.int 0), true), (.eq (.at 1) (.int 2), true)], .tup [moV 1, it 0]⟩, ⟨9, [moV 1, it 0, dayD], dyN, .tup [moV 13, xi 24]⟩,
 ⟨17, [moV 1], dyN, .tup [xi 25, it 0]⟩, ⟨17, [moV 13], dyQ, .tup [.xi .i64 (.add .i64 (.at 25) (.int 1)), it 0]⟩, ⟨21, [moV 1, moV 13], dyQ, .tup [it (-1), .bool true, it 0]⟩, ⟨19, [moV 1], dyR, .tup [moV 26, xi 37]⟩, ⟨23, [moV 26, moV 1], dyR, .tup [xb 38, xi 39]⟩]
def yT : Tree := .leaf (.bool true)
def nT : Tree := .leaf (.bool false)
def dyT : Tree := .node (.lt (.int 300) (.len (.at 8))) yT (.node (.eq (.at 12) (.int 0)) (.node (.eq (.at 1) (.int 2)) yT (.node (.eq (.at 24) (.int 0)) (.node (.eq (.at 1) (.int 3)) (.node (.at 10) (.node (.eq (.at 37) (.int 0)) (.node (.eq (.at 39) (.int 0)) (.node (.at 38) (.node (.eq (.at 36) (.int 0)) (.node (.at 35) yT nT) nT) nT) nT) yT) yT) yT)
 (.node (.eq (.at 24) (.int 7)) (.node (.eq (.at 2) (.int 9999)) (.node (.eq (.at 3) (.int 12)) (.node (.eq (.at 4) (.int 31)) yT nT) nT) nT) nT))) yT)
theorem run_days6 : chk (runTr Tryz.prog nG (fun _ => none) gd moT dyC 1000 7 [moV 1] h0) dyT [] = true := by decide +kernel
theorem dy_ok {x : Mo} (h : decide ((bif Mo.okB x then (0 : Int) else 2) = 0) = true) : Mo.okB x = true := by
 cases e : Mo.okB x
 ·rw [e] at h; cases h
 ·rfl
theorem ok_size {x : Mo} (h : Mo.Ok x) : x.s.size <= 1000000 := by
 by_cases c : x.k = 1
 ·rw [(ok_notime h c).2.2.2.1]; decide
 ·have := (okB_ok (sec_lt (ok_time h c).1).1).size; omega
theorem normal_size (x : Mo) (h : Mo.Ok x) (hk : x.k = 3) (hz : x.z = true) : (normalM x).1.s.size <= 1000000 := by
 by_cases h0 : (normalM x).2 = 0
 ·exact ok_size (Mo.normal_is h hk hz h0).1
 ·have hc : Mo.okB x = true /\ x.z = true /\ x.k ≠ 1 := ⟨decide_eq_true h, hz, by omega⟩
  unfold normalM at h0 ⊢
  rw [if_pos hc] at h0 ⊢
  unfold Mo.ofM at h0 ⊢
  split at h0
  ·rename_i q; simp only [if_pos q]; decide
  ·rename_i q
   split at h0
   ·rename_i q2; simp only [if_neg q, if_pos q2]; decide
   ·exact absurd rfl h0
theorem days_is6 (x : Mo) (w : World) (M : Int) (hV : Vars M w) : Calls Tryz.prog 7 #[x.val] w fun e w' => e = .returned (.bool true) /\ Below w.heap.size w w' := by
 obtain ⟨⟨y, k⟩, hy⟩ : ∃ p, Mo.addM x 0 false Mo.dayS 0 = p := ⟨_, rfl⟩
 obtain ⟨⟨z, j⟩, hz⟩ : ∃ p, normalM x = p := ⟨_, rfl⟩
 obtain ⟨⟨t, i⟩, ht⟩ : ∃ p, equalM z x = p := ⟨_, rfl⟩
 obtain ⟨b, hb⟩ : ∃ b, Mo.okB x = b := ⟨_, rfl⟩
 have hdy : Mo.Ok x -> x.k ≠ 2 -> (k = 0 -> Mo.Next x y) /\ (k ≠ 0 -> k = 7 /\ x.y = 9999 /\ x.m = 12 /\ x.d = 31) := fun h c => by
  rcases Mo.add_day h c with ⟨y', e, hn⟩ | ⟨e1, e2⟩
  ·rw [hy] at e; cases e; exact ⟨fun _ => hn, fun q => absurd rfl q⟩
  ·rw [hy] at e1
   exact ⟨(fun q => by rw [show k = 7 from e1] at q; cases q), fun _ => ⟨e1, e2⟩⟩
 have hck : ∀ {p : Int}, p = (bif b then 0 else 2) -> decide (p = 0) = true -> Mo.Ok x := fun e h => okB_Ok (dy_ok (by rw [hb, <- e]; exact h))
 refine tree_rv (env := .append x.list (.int .i64 (bif b then 0 else 2) :: .append y.list (.int .i64 k :: .int .i64 x.day :: .append z.list [.int .i64 j, .bool t, .int .i64 i]))) run_days6 ?_ rfl trivial rfl rfl ?_ hV
 ·refine ⟨⟨rfl, fk, fun _ L w hV => shown_is w M hV⟩, ⟨rfl, fk, fun hp L w hV => ?_⟩, ⟨rfl, fk, fun hp L w hV => ?_⟩, ⟨rfl, fk, fun hp L w hV => ?_⟩, ⟨rfl, fk, fun hp L w hV => ?_⟩, ⟨rfl, fk, fun hp L w hV => ?_⟩, ⟨rfl, fk, fun hp L w hV => ?_⟩, ⟨rfl, fk, fun hp L w hV => ?_⟩, ⟨rfl, fk, fun hp L w hV => ?_⟩, ⟨rfl, fk, fun hp L w hV => ?_⟩, trivial⟩
  ·have q : x.s.size <= 300 := upTo_le hp.1
   have h := pcheckm_is x (by omega) w M hV
   rw [hb] at h; exact h
  ·have h := hck rfl hp.2.1
   have q := padd_m (x := x) (u := 0) (n := false) (s := Mo.zeroS) (S := 0) (hx := ok_size h) (hs := by decide) (w := w) (hV := hV)
   unfold addV at q
   rw [Mo.add_zero h] at q; exact q
  ·have h := hck rfl hp.2.1
   have c : x.k = 2 := of_decide_eq_true hp.2.2.1
   have q := padd_m (x := x) (u := 0) (n := false) (s := Mo.dayS) (S := 0) (hx := ok_size h) (hs := by decide) (w := w) (hV := hV)
   unfold addV at q
   rw [Mo.add_time h c] at q; exact q
  ·have h := hck rfl hp.2.1
   have q := padd_m (x := x) (u := 0) (n := false) (s := Mo.dayS) (S := 0) (hx := ok_size h) (hs := by decide) (w := w) (hV := hV)
   unfold addV at q
   rw [hy] at q; exact q
  ·have h := hck rfl hp.2.1
   have c : x.k ≠ 2 := of_decide_eq_false hp.2.2.1
   exact pdaysm_is x (ok_size h) x.day 0 (by unfold daysM; rw [if_pos ⟨decide_eq_true h, c⟩]) w M hV
  ·have h := hck rfl hp.2.1
   have c : x.k ≠ 2 := of_decide_eq_false hp.2.2.1
   have hn := (hdy h c).1 (of_decide_eq_true hp.2.2.2.1)
   have hd := day_bd (ok_date h c)
   have e : IntKind.i64.wrap (x.day + 1) = y.day := by rw [hn.day, IntKind.wrap_i64]; omega
   have q := pdaysm_is y (ok_size hn.ok) y.day 0 (by unfold daysM; rw [if_pos ⟨decide_eq_true hn.ok, by rw [hn.k]; exact c⟩]) w M hV
   rw [<- e] at q; exact q
  ·have h := hck rfl hp.2.1
   have c : x.k ≠ 2 := of_decide_eq_false hp.2.2.1
   have hn := (hdy h c).1 (of_decide_eq_true hp.2.2.2.1)
   have hU := Dc.U_pos
   refine pcmpm_is x y (ok_size h) (ok_size hn.ok) (-1) true 0 ?_ w M hV
   unfold cmpM
   rw [if_pos ⟨decide_eq_true h, decide_eq_true hn.ok, hn.k.symm⟩, if_pos hn.z.symm]
   unfold Dc.ordI
   rw [if_pos (by rw [hn.later]; omega)]
  ·have h := hck rfl hp.2.1
   exact pnormal_is x (ok_size h) z j hz w M hV
  ·have h := hck rfl hp.2.1
   have c : x.k = 3 := of_decide_eq_true hp.2.2.1
   have q := normal_size x h c hp.2.2.2.1
   rw [hz] at q
   exact pequalm_is z x q (ok_size h) t i ht w M hV
 ·show (bif decide ((300 : Int) < (x.s.size : Int)) then V.bool true else bif decide ((bif b then (0 : Int) else 2) = 0) then bif decide (x.k = 2) then .bool true else bif decide (k = 0) then bif decide (x.k = 3) then bif x.z then bif decide (j = 0) then bif decide (i = 0) then bif t then bif decide (z.o = 0) then bif z.z then .bool true else .bool false else .bool false else .bool false else .bool false else .bool true else .bool true else .bool true
   else bif decide (k = 7) then bif decide (x.y = 9999) then bif decide (x.m = 12) then bif decide (x.d = 31) then .bool true else .bool false else .bool false else .bool false else .bool false else .bool true).den L0 _ = _
  have T : ∀ E : Nat -> Value, (V.bool true).den L0 E = .bool true := fun _ => rfl
  cases hb' : decide ((bif b then (0 : Int) else 2) = 0) with
  | false => cases decide ((300 : Int) < (x.s.size : Int)) <;> rfl
  | true =>
   have h := hck rfl hb'
   cases decide ((300 : Int) < (x.s.size : Int)) with
   | true => rfl
   | false =>
    by_cases c : x.k = 2
    ·rw [decide_eq_true c]; rfl
    ·rw [decide_eq_false c]
     by_cases k0 : k = 0
     ·rw [decide_eq_true k0]
      by_cases c3 : x.k = 3
      ·rw [decide_eq_true c3]
       cases xz : x.z with
       | false => rfl
       | true =>
        by_cases j0 : j = 0
        ·have q := Mo.normal_is h c3 xz (by rw [hz]; exact j0)
         rw [hz] at q
         have q2 : equalM z x = (true, 0) := q.2.1
         rw [ht] at q2
         cases q2
         rw [decide_eq_true j0, decide_eq_true (show z.o = 0 from q.2.2.1), show z.z = true from q.2.2.2]
         rfl
        ·rw [decide_eq_false j0]; rfl
      ·rw [decide_eq_false c3]; rfl
     ·obtain ⟨e1, e2, e3, e4⟩ := (hdy h c).2 k0
      rw [decide_eq_false k0, decide_eq_true e1, decide_eq_true e2, decide_eq_true e3, decide_eq_true e4]
      rfl
end Go.Proofs.YtckodhldimhbfaaGreatDoor
