/-
  Part 41 of the proof: what functions return, and plain facts (Mlaws2). Conditions: each theorem names its own.
-/
import Derived.Test.YtckodhldimhbfaaGreatDoorG38
set_option maxRecDepth 1000000
set_option maxHeartbeats 16000000
namespace Go.Proofs.YtckodhldimhbfaaGreatDoor
open Go Go.RowKit Go.Ex
theorem dig_low {l : List Nat} (h : l.all Dc.dig = true) : ∀ c ∈ l, c < 256 := fun c hc => by
 have := (Dc.dig_iff.1 (List.all_eq_true.1 h c hc)).2
 omega
namespace Mo
theorem pad_low (k n : Nat) : ∀ c ∈ Dc.pad k n, c < 256 := dig_low (Dc.pad_dig k n)
theorem secL_low {x : Mo} (h : secB x = true) : ∀ c ∈ secL x, c < 256 := by
 obtain ⟨p, q, _, hp, hq, hs, _⟩ := secL_form h
 intro c hc
 rcases hs with ⟨_, e⟩ | ⟨_, e⟩
 ·rw [e] at hc; exact dig_low hp c hc
 ·rw [e] at hc
  rcases List.mem_append.1 hc with h1 | h1
  ·exact dig_low hp c h1
  ·rcases List.mem_cons.1 h1 with rfl | h1
   ·decide
   ·exact dig_low hq c h1
theorem secL_short {x : Mo} (h : secB x = true) : (secL x).length <= 70 := by
 have k := okB_ok (n := x.n) (s := x.s) (S := x.S) (by unfold secB at h; simp only [Bool.and_eq_true] at h; exact h.1)
 have h1 : (Dc.txt x.n (bts x.s) x.S.toNat).length <= max (x.S.toNat + 1) (bts x.s).length + 2 := by
  have h := Dc.wide_length (bts x.s) x.S.toNat
  unfold Dc.txt Dc.dotted
  split <;> split <;> (try simp only [List.length_cons, List.length_append, List.length_take, List.length_drop]) <;> omega
 have h2 := k.size
 have h3 := k.high
 rw [bts_length] at h1
 unfold secL
 split
 ·rw [List.length_cons]; omega
 ·omega
theorem low_app {a b : List Nat} (ha : ∀ c ∈ a, c < 256) (hb : ∀ c ∈ b, c < 256) : ∀ c ∈ a ++ b, c < 256 := fun c hc => (List.mem_append.1 hc).elim (ha c) (hb c)
theorem low_cons {a : Nat} {b : List Nat} (ha : a < 256) (hb : ∀ c ∈ b, c < 256) : ∀ c ∈ a :: b, c < 256 := fun c hc => by
 rcases List.mem_cons.1 hc with rfl | h
 ·exact ha
 ·exact hb c h
theorem low_nil : ∀ c ∈ ([] : List Nat), c < 256 := fun _ h => by cases h
theorem dateL_short {x : Mo} (h : dateOk x) : (dateL x).length <= 11 /\ ∀ c ∈ dateL x, c < 256 := by
 obtain ⟨h1, h2, h3, h4, h5, h6, h7⟩ := h
 have hd := dim_bd (counted x.y) x.m
 refine ⟨?_, ?_⟩
 ·unfold dateL
  have a := Dc.pad_length (k := 4) (n := x.y.natAbs) (by decide) (by omega)
  have b := Dc.pad_length (k := 2) (n := x.m.natAbs) (by decide) (by omega)
  have c := Dc.pad_length (k := 2) (n := x.d.natAbs) (by decide) (by omega)
  simp only [List.length_append, List.length_cons, a, b, c]
  split <;> simp
 ·unfold dateL
  refine low_app ?_ (low_app (pad_low _ _) (low_cons (by decide) (low_app (pad_low _ _) (low_cons (by decide) (pad_low _ _)))))
  split
  ·exact low_cons (by decide) low_nil
  ·exact low_nil
theorem timeL_short {x : Mo} (h : timeOk x) : (timeL x).length <= 80 /\ ∀ c ∈ timeL x, c < 256 := by
 obtain ⟨h1, h2, h3, h4, h5⟩ := h
 refine ⟨?_, ?_⟩
 ·unfold timeL
  have a := Dc.pad_length (k := 2) (n := x.h.natAbs) (by decide) (by omega)
  have b := Dc.pad_length (k := 2) (n := x.i.natAbs) (by decide) (by omega)
  have c := secL_short h1
  simp only [List.length_append, List.length_cons, a, b]
  omega
 ·unfold timeL
  exact low_app (pad_low _ _) (low_cons (by decide) (low_app (pad_low _ _) (low_cons (by decide) (secL_low h1))))
theorem zoneL_short {x : Mo} (h1 : -840 <= x.o) (h2 : x.o <= 840) : (zoneL x).length <= 6 /\ ∀ c ∈ zoneL x, c < 256 := by
 unfold zoneL
 split
 ·exact ⟨by decide, low_nil⟩
 split
 ·exact ⟨by decide, low_cons (by decide) low_nil⟩
 ·refine ⟨?_, low_cons (by split <;> decide) (low_app (pad_low _ _) (low_cons (by decide) (pad_low _ _)))⟩
  have a := Dc.pad_length (k := 2) (n := x.o.natAbs / 60) (by decide) (by omega)
  have b := Dc.pad_length (k := 2) (n := x.o.natAbs % 60) (by decide) (by omega)
  simp only [List.length_append, List.length_cons, a, b]
  decide
theorem textL_short {x : Mo} (h : Ok x) : (textL x).length <= 300 /\ ∀ c ∈ textL x, c < 256 := by
 obtain ⟨h1, h2, h3, h4, h5, h6⟩ := h
 have z := zoneL_short h2 h3
 have d : (if x.k = 2 then [] else dateL x).length <= 11 /\ ∀ c ∈ (if x.k = 2 then [] else dateL x), c < 256 := by
  split
  ·exact ⟨by decide, low_nil⟩
  ·rename_i hk; rw [if_neg hk] at h5; exact dateL_short h5
 have t : (if x.k = 1 then [] else timeL x).length <= 80 /\ ∀ c ∈ (if x.k = 1 then [] else timeL x), c < 256 := by
  split
  ·exact ⟨by decide, low_nil⟩
  ·rename_i hk; rw [if_neg hk] at h6; exact timeL_short h6
 have m : (if x.k = 3 then [84] else ([] : List Nat)).length <= 1 /\ ∀ c ∈ (if x.k = 3 then [84] else ([] : List Nat)), c < 256 := by
  split
  ·exact ⟨by decide, low_cons (by decide) low_nil⟩
  ·exact ⟨by decide, low_nil⟩
 unfold textL
 refine ⟨?_, low_app d.2 (low_app m.2 (low_app t.2 z.2))⟩
 simp only [List.length_append]
 omega
theorem text_back {x : Mo} (h : okB x = true) : (str (textL x)).size <= 300 /\ textM x = (str (textL x), 0) /\ readM x.k (bts (str (textL x))) = (x, 0) := by
 have hO : Ok x := of_decide_eq_true h
 have q := textL_short hO
 refine ⟨by rw [str_size]; exact q.1, by unfold textM; rw [if_pos h], ?_⟩
 rw [bts_str _ q.2]
 exact readM_text hO
end Mo
theorem cmp_self {a : Mo} (h : Mo.okB a = true) : cmpM a a = (0, true, 0) /\ equalM a a = (true, 0) := by
 unfold cmpM equalM
 have hk : Mo.okB a = true /\ Mo.okB a = true /\ a.k = a.k := ⟨h, h, rfl⟩
 rw [if_pos hk, if_pos hk, if_pos rfl]
 exact ⟨by unfold Dc.ordI; rw [if_neg (by omega), if_neg (by omega)], by simp⟩
def lessM (a b : Mo) : Prop := Mo.okB a = true /\ Mo.okB b = true /\ a.k = b.k /\ (if a.z = b.z then a.TA < b.TA else a.TA < b.TA - Dc.U * 50400)
theorem less_of {a b : Mo} (h1 : (cmpM a b).2.2 = 0) (h3 : (cmpM a b).1 < 0) : lessM a b := by
 unfold cmpM at h1 h3
 split at h1
 ·rename_i hk
  rw [if_pos hk] at h3
  refine ⟨hk.1, hk.2.1, hk.2.2, ?_⟩
  by_cases hz : a.z = b.z
  ·rw [if_pos hz] at h3 ⊢
   rcases ord_cases a.TA b.TA with ⟨q, e⟩ | ⟨q, e⟩ | ⟨q, e⟩
   ·exact q
   ·simp only [e] at h3; omega
   ·simp only [e] at h3; omega
  ·rw [if_neg hz] at h3 ⊢
   by_cases h4 : a.TA < b.TA - Dc.U * 50400
   ·exact h4
   ·rw [if_neg h4] at h3
    split at h3
    ·simp at h3
    ·simp at h3
 ·cases h1
theorem U_pos : (0 : Int) < Dc.U * 50400 := by decide
theorem lessM.lt {a b : Mo} (h : lessM a b) : a.TA < b.TA := by
 have h := h.2.2.2
 have := U_pos
 split at h <;> omega
theorem lessM.more {a b : Mo} (h : lessM a b) : cmpM b a = (1, true, 0) := by
 have hl := h.lt
 obtain ⟨h1, h2, h3, h4⟩ := h
 unfold cmpM
 rw [if_pos ⟨h2, h1, h3.symm⟩]
 by_cases hz : a.z = b.z
 ·rw [if_pos hz.symm]
  rcases ord_cases b.TA a.TA with ⟨q, e⟩ | ⟨q, e⟩ | ⟨q, e⟩
  ·omega
  ·omega
  ·rw [e]
 ·rw [if_neg hz] at h4
  have := U_pos
  rw [if_neg (fun e => hz e.symm), if_neg (by omega), if_pos (by omega)]
theorem lessM.trans {a b c : Mo} (h : lessM a b) (k : lessM b c) : (cmpM a c).2.2 = 0 /\ ((cmpM a c).2.1 = true -> (cmpM a c).1 < 0) /\ equalM a c = (false, 0) := by
 have hl := Int.lt_trans h.lt k.lt
 have hk : Mo.okB a = true /\ Mo.okB c = true /\ a.k = c.k := ⟨h.1, k.2.1, h.2.2.1.trans k.2.2.1⟩
 have := U_pos
 unfold cmpM equalM
 rw [if_pos hk, if_pos hk]
 refine ⟨?_, ?_, ?_⟩
 ·split
  ·rfl
  ·split
   ·rfl
   ·split <;> rfl
 ·intro ht
  split
  ·rcases ord_cases a.TA c.TA with ⟨q, e⟩ | ⟨q, e⟩ | ⟨q, e⟩
   ·rw [e]; decide
   ·omega
   ·omega
  ·rename_i hz
   rw [if_neg hz] at ht
   split
   ·decide
   ·rename_i h4
    rw [if_neg h4, if_neg (by omega)] at ht
    cases ht
 ·have : decide (a.z = c.z /\ a.TA = c.TA) = false := decide_eq_false (fun e => by omega)
  rw [this]
def lasC : List CallX := [⟨8, [], [], .bool true⟩, ⟨15, [moV 1], [upTo 8], xi 43⟩, ⟨13, [moV 1], [upTo 8, (.eq (.at 43) (.int 0), true)], .tup [xs 34, it 0]⟩, ⟨11, [xi 1, xs 34], [upTo 8, (.eq (.at 43) (.int 0), true)], .tup [moV 1, it 0]⟩,
 ⟨21, [moV 1, moV 1], [upTo 8, (.eq (.at 43) (.int 0), true)], .tup [it 0, .bool true, it 0]⟩, ⟨23, [moV 1, moV 1], [upTo 8, (.eq (.at 43) (.int 0), true)], .tup [.bool true, it 0]⟩,
 ⟨21, [moV 1, moV 12], [upTo 8, upTo 19], .tup [xi 35, xb 36, xi 37]⟩, ⟨21, [moV 12, moV 1], [upTo 8, upTo 19, (.eq (.at 37) (.int 0), true), (.at 36, true), (.lt (.at 35) (.int 0), true)], .tup [it 1, .bool true, it 0]⟩,
 ⟨21, [moV 12, moV 23], [upTo 19, upTo 30], .tup [xi 38, xb 39, xi 40]⟩,
 ⟨21, [moV 1, moV 23], [upTo 8, upTo 30, (.eq (.at 37) (.int 0), true), (.at 36, true), (.lt (.at 35) (.int 0), true), (.eq (.at 40) (.int 0), true), (.at 39, true), (.lt (.at 38) (.int 0), true)], .tup [xi 41, xb 42, it 0]⟩,
 ⟨23, [moV 1, moV 23], [upTo 8, upTo 30, (.eq (.at 37) (.int 0), true), (.at 36, true), (.lt (.at 35) (.int 0), true), (.eq (.at 40) (.int 0), true), (.at 39, true), (.lt (.at 38) (.int 0), true)], .tup [.bool false, it 0]⟩]
def lasE (a b c : Mo) : List Value := a.list ++ b.list ++ c.list ++ [.string (str (Mo.textL a)), .int .i64 (cmpM a b).1, .bool (cmpM a b).2.1, .int .i64 (cmpM a b).2.2, .int .i64 (cmpM b c).1, .bool (cmpM b c).2.1, .int .i64 (cmpM b c).2.2, .int .i64 (cmpM a c).1, .bool (cmpM a c).2.1, .int .i64 (bif Mo.okB a then 0 else 2)]
def yes : Tree := .leaf (.bool true)
def lasT : Tree := .node (.lt (.int 300) (.len (.at 8))) yes (.node (.lt (.int 300) (.len (.at 19))) yes (.node (.lt (.int 300) (.len (.at 30))) yes (.node (.eq (.at 43) (.int 0))
 (.node (.eq (.at 37) (.int 0)) (.node (.at 36) (.node (.lt (.at 35) (.int 0)) (.node (.eq (.at 40) (.int 0)) (.node (.at 39) (.node (.lt (.at 38) (.int 0))
  (.node (.at 42) (.node (.lt (.at 41) (.int 0)) yes (.leaf (.bool false))) yes) yes) yes) yes) yes) yes) yes) yes)))
theorem run_laws : chk (runTr Tryz.prog nG (fun _ => none) gd moT lasC 100 6 [moV 1, moV 12, moV 23] h0) lasT [] = true := by decide +kernel
theorem las_ok (a b c : Mo) (M : Int) : AllX Tryz.prog (envE (.int .i64 M :: lasE a b c)) (Vars M) lasC := by
 have ka : ∀ {F : Fx}, Fx.Ok (envE (.int .i64 M :: lasE a b c)) (upTo 8 :: F) -> a.s.size <= 1000000 := fun hp => by have := upTo_le (n := a.s.size) hp.1; omega
 have kb : ∀ {F : Fx}, Fx.Ok (envE (.int .i64 M :: lasE a b c)) (upTo 19 :: F) -> b.s.size <= 1000000 := fun hp => by have := upTo_le (n := b.s.size) hp.1; omega
 have kc : ∀ {F : Fx}, Fx.Ok (envE (.int .i64 M :: lasE a b c)) (upTo 30 :: F) -> c.s.size <= 1000000 := fun hp => by have := upTo_le (n := c.s.size) hp.1; omega
 have ko : Fx.Ok (envE (.int .i64 M :: lasE a b c)) [upTo 8, (.eq (.at 43) (.int 0), true)] -> Mo.okB a = true := fun hp => by
  have h : decide ((bif Mo.okB a then (0 : Int) else 2) = 0) = true := hp.2.1
  cases hq : Mo.okB a with
  | true => rfl
  | false => rw [hq] at h; cases h
 have l1 : ∀ {F : Fx}, Fx.Ok (envE (.int .i64 M :: lasE a b c)) ((.eq (.at 37) (.int 0), true) :: (.at 36, true) :: (.lt (.at 35) (.int 0), true) :: F) -> lessM a b := fun hp => less_of (of_decide_eq_true hp.1) (of_decide_eq_true hp.2.2.1)
 have l2 : ∀ {F : Fx}, Fx.Ok (envE (.int .i64 M :: lasE a b c)) ((.eq (.at 40) (.int 0), true) :: (.at 39, true) :: (.lt (.at 38) (.int 0), true) :: F) -> lessM b c := fun hp => less_of (of_decide_eq_true hp.1) (of_decide_eq_true hp.2.2.1)
 exact ⟨⟨rfl, fk, fun _ L w hV => shown_is w M hV⟩,
  ⟨rfl, fk, fun hp L w hV => pcheckm_is a (ka hp) w M hV⟩,
  ⟨rfl, fk, fun hp L w hV => ptext_lit (ka hp) (Mo.text_back (ko hp)).2.1 hV⟩,
  ⟨rfl, fk, fun hp L w hV => pread_lit (Mo.text_back (ko hp)).1 (Mo.text_back (ko hp)).2.2 hV⟩,
  ⟨rfl, fk, fun hp L w hV => pcmpm_is a a (ka hp) (ka hp) _ _ _ (cmp_self (ko hp)).1 w M hV⟩,
  ⟨rfl, fk, fun hp L w hV => pequalm_is a a (ka hp) (ka hp) _ _ (cmp_self (ko hp)).2 w M hV⟩,
  ⟨rfl, fk, fun hp L w hV => pcmpm_is a b (ka hp) (kb hp.2) _ _ _ rfl w M hV⟩,
  ⟨rfl, fk, fun hp L w hV => pcmpm_is b a (kb hp.2) (ka hp) _ _ _ (l1 hp.2.2).more w M hV⟩,
  ⟨rfl, fk, fun hp L w hV => pcmpm_is b c (kb hp) (kc hp.2) _ _ _ rfl w M hV⟩,
  ⟨rfl, fk, fun hp L w hV => pcmpm_is a c (ka hp) (kc hp.2) (cmpM a c).1 (cmpM a c).2.1 0 (Prod.ext rfl (Prod.ext rfl ((l1 hp.2.2).trans (l2 hp.2.2.2.2.2)).1)) w M hV⟩,
  ⟨rfl, fk, fun hp L w hV => pequalm_is a c (ka hp) (kc hp.2) _ _ ((l1 hp.2.2).trans (l2 hp.2.2.2.2.2)).2.2 w M hV⟩, trivial⟩
theorem lasT_at (a b c : Mo) (M : Int) : (lasT.at (envE (.int .i64 M :: lasE a b c))).den L0 (envE (.int .i64 M :: lasE a b c)) = .bool true := by
 have e : lasT.at (envE (.int .i64 M :: lasE a b c)) = bif decide ((300 : Int) < (a.s.size : Int)) then .bool true else bif decide ((300 : Int) < (b.s.size : Int)) then .bool true else bif decide ((300 : Int) < (c.s.size : Int)) then .bool true else bif decide ((bif Mo.okB a then (0 : Int) else 2) = 0) then
  (bif decide ((cmpM a b).2.2 = 0) then bif (cmpM a b).2.1 then bif decide ((cmpM a b).1 < 0) then bif decide ((cmpM b c).2.2 = 0) then bif (cmpM b c).2.1 then bif decide ((cmpM b c).1 < 0) then bif (cmpM a c).2.1 then bif decide ((cmpM a c).1 < 0) then .bool true else .bool false else .bool true else .bool true else .bool true else .bool true else .bool true else .bool true else .bool true) else .bool true := rfl
 rw [e]
 have hb : ∀ (p : Bool) (v : V), (p = true -> v = .bool true) -> (bif p then v else .bool true) = .bool true := fun p v h => by cases p with | true => exact h rfl | false => rfl
 have hb2 : ∀ (p : Bool) (v : V), (p = false -> v = .bool true) -> (bif p then .bool true else v) = .bool true := fun p v h => by cases p with | true => rfl | false => exact h rfl
 rw [hb2 _ _ fun _ => hb2 _ _ fun _ => hb2 _ _ fun _ => hb _ _ fun _ => hb _ _ fun q1 => hb _ _ fun _ => hb _ _ fun q3 => hb _ _ fun q4 => hb _ _ fun _ => hb _ _ fun q6 => hb _ _ fun q7 => ?_]
 ·rfl
 ·have := ((less_of (of_decide_eq_true q1) (of_decide_eq_true q3)).trans (less_of (of_decide_eq_true q4) (of_decide_eq_true q6))).2.1 q7
  rw [decide_eq_true this]
  rfl
theorem laws_is (a b c : Mo) (w : World) (M : Int) (hV : Vars M w) : Calls Tryz.prog 6 #[a.val, b.val, c.val] w fun e w' => e = .returned (.bool true) /\ Below w.heap.size w w' := by
 have h := tree_run (env := lasE a b c) run_laws (las_ok a b c M) rfl trivial rfl hV
 rw [lasT_at] at h
 exact h
end Go.Proofs.YtckodhldimhbfaaGreatDoor
