/-
  Part 39 of the proof: what functions return, and plain facts (Madd4). Conditions: each theorem names its own.
-/
import Derived.Test.YtckodhldimhbfaaGreatDoorG37
set_option maxRecDepth 1000000
set_option maxHeartbeats 16000000
namespace Go.Proofs.YtckodhldimhbfaaGreatDoor
open Go Go.RowKit Go.Ex

def okR (x : Mo) : Value := .int .i64 (bif Mo.okB x then 0 else 2)
theorem okR_ev (x : Mo) {u : Int} {n : Bool} {s : ByteArray} {S M : Int} : (X.eq (.at 16) (.int 0)).evB (envE (.int .i64 M :: addE (okR x) x u n s S)) = Mo.okB x := by
 have e : (X.eq (.at 16) (.int 0)).evB (envE (.int .i64 M :: addE (okR x) x u n s S)) = decide ((bif Mo.okB x then (0 : Int) else 2) = 0) := rfl
 rw [e]
 cases Mo.okB x <;> rfl
def radC2 : List CallX := [⟨16, [moK 2 1], [], xi 16⟩, ⟨41, [deV 13], [], xi 17⟩, ⟨90, [.agg [.bool false, xs 14, xi 15], tril], [], .tup [xi 18, xi 19]⟩, ⟨49, [deV 13], okA (.eq (.at 16) (.int 0)), ptV 21⟩, ⟨48, [moK 2 1], okA (.eq (.at 16) (.int 0)), ptV 25⟩, ⟨47, [ptV 25, ptV 21], okA (.eq (.at 16) (.int 0)), ptV 29⟩, ⟨46, [it 2, ptV 29], okA (.eq (.at 16) (.int 0)), .tup [moV 33, xi 44]⟩]
theorem rrun_add2 : chk (runTr Tryz.prog nG (fun _ => none) gd moT radC2 100 10 [moK 2 1, xi 12, deV 13] h0) (adT2 (.eq (.at 16) (.int 0))) [] = true := by decide +kernel
def rxN : X := .add .i64 (.sub .i64 (.add .i64 (.mul .i64 (.add .i64 (.at 20) (.int 40000)) (.int 12)) (.at 3)) (.int 1)) (.at 12)
def radC (k : Int) : List CallX := [⟨16, [moK k 1], [], xi 16⟩, ⟨41, [deV 13], [], xi 17⟩, ⟨90, [.agg [.bool false, xs 14, xi 15], tril], [], .tup [xi 18, xi 19]⟩, ⟨44, [xi 2], okU (.eq (.at 16) (.int 0)), xi 20⟩, ⟨45, [.xi .i64 (yX rxN), .xi .i64 (mX rxN)], okU (.eq (.at 16) (.int 0)), xi 45⟩, ⟨49, [deV 13], okA (.eq (.at 16) (.int 0)), ptV 21⟩, ⟨48, [chV k (.sub .i64 (yX rxN) (.int 1)) (mX rxN)], okY (.eq (.at 16) (.int 0)) (yX rxN) (.sub .i64 (yX rxN) (.int 1)) true, ptV 25⟩, ⟨48, [chV k (yX rxN) (mX rxN)], okY (.eq (.at 16) (.int 0)) (yX rxN) (yX rxN) false, ptV 25⟩, ⟨47, [ptV 25, ptV 21], okY (.eq (.at 16) (.int 0)) (yX rxN) (.sub .i64 (yX rxN) (.int 1)) true, ptV 29⟩, ⟨47, [ptV 25, ptV 21], okY (.eq (.at 16) (.int 0)) (yX rxN) (yX rxN) false, ptV 29⟩, ⟨46, [it k, ptV 29], okY (.eq (.at 16) (.int 0)) (yX rxN) (.sub .i64 (yX rxN) (.int 1)) true, .tup [moV 33, xi 44]⟩, ⟨46, [it k, ptV 29], okY (.eq (.at 16) (.int 0)) (yX rxN) (yX rxN) false, .tup [moV 33, xi 44]⟩]
theorem rrun_add1 : chk (runTr Tryz.prog nG (fun _ => none) gd moT (radC 1) 100 10 [moK 1 1, xi 12, deV 13] h0) (adT1 true (.eq (.at 16) (.int 0)) rxN) [] = true := by decide +kernel
theorem rrun_add3 : chk (runTr Tryz.prog nG (fun _ => none) gd moT (radC 3) 100 10 [moK 3 1, xi 12, deV 13] h0) (adT1 true (.eq (.at 16) (.int 0)) rxN) [] = true := by decide +kernel
theorem rrun_add0 : chk (runTr Tryz.prog nG (fun _ => none) gd moT [⟨16, [moV 1], [], it 2⟩] 100 10 [moV 1, xi 12, deV 13] h0) (.leaf (zE (it 2))) [] = true := by decide +kernel
theorem rxN_ev {x : Mo} {u : Int} {n : Bool} {s : ByteArray} {S M : Int} {c : Value} (h : Mo.dateOk x) (h1 : -300000 <= u) (h2 : u <= 300000) : rxN.evI (envE (.int .i64 M :: addE c x u n s S)) = Mo.mN x u := by
 have hc := cnt_bd h
 obtain ⟨q1, q2, q3, q4, q5, q6, q7⟩ := h
 have e : rxN.evI (envE (.int .i64 M :: addE c x u n s S)) = IntKind.i64.wrap (IntKind.i64.wrap (IntKind.i64.wrap (IntKind.i64.wrap (IntKind.i64.wrap (Mo.counted x.y + 40000) * 12) + x.m) - 1) + u) := rfl
 rw [e, w64 (n := Mo.counted x.y + 40000) (by omega) (by omega), w64 (n := (Mo.counted x.y + 40000) * 12) (by omega) (by omega), w64 (n := (Mo.counted x.y + 40000) * 12 + x.m) (by omega) (by omega), w64 (n := (Mo.counted x.y + 40000) * 12 + x.m - 1) (by omega) (by omega), w64 (by omega) (by omega)]
 unfold Mo.mN; omega
section
variable (x : Mo) (u : Int) (n : Bool) (s : ByteArray) (S M : Int)
theorem rad2_ok (hx : x.s.size <= 1000000) (hs : s.size <= 1000000) : AllX Tryz.prog (envE (.int .i64 M :: addE (okR (x.kd 2)) (x.kd 2) u n s S)) (Vars M) radC2 := by
 have hs0 : Mo.trill.size <= 1000000 := by decide
 have hok : ((.eq (.at 16) (.int 0)) : X).evB (envE (.int .i64 M :: addE (okR (x.kd 2)) (x.kd 2) u n s S)) = Mo.okB (x.kd 2) := okR_ev (x.kd 2)
 exact ⟨⟨rfl, fk, fun _ L w hV => rcheckm_is (x.kd 2) hx w M hV⟩,
  ⟨rfl, fk, fun _ L w hV => rcheck_any n s S hs w⟩,
  ⟨rfl, fk, fun _ L w hV => rcmp_is false s S false Mo.trill 0 hs hs0 _ _ rfl w⟩,
  ⟨rfl, fk, fun hp L w hV => rsplit_is n s S _ (sec_add (okA_of hok hp).2.1 (okA_of hok hp).2.2).1 w M hV⟩,
  ⟨rfl, fk, fun hp L w hV => by
   have := rlocal_is (x.kd 2) (okA_of hok hp).1 w M hV
   rw [<- later2 (u := u)] at this; exact this⟩,
  ⟨rfl, fk, fun hp L w hV => by
   have q := sum_small (x := x.kd 2) (u := u) (by rw [later2]; exact (okA_of hok hp).1) (okA_of hok hp).2.1 (okA_of hok hp).2.2
   exact rplus_is (Mo.later (x.kd 2) u).TL _ q.1 q.2.1 w M hV⟩,
  ⟨rfl, fk, fun hp L w hV => by
   have q := sum_small (x := x.kd 2) (u := u) (by rw [later2]; exact (okA_of hok hp).1) (okA_of hok hp).2.1 (okA_of hok hp).2.2
   exact rof_m 2 (Mo.sumT (x.kd 2) u n s S) (.inr (.inl rfl)) q.2.2 w M hV⟩, trivial⟩
theorem radk_ok (k : Int) (hk : k = 1 \/ k = 3) (hx : x.s.size <= 1000000) (hs : s.size <= 1000000) : AllX Tryz.prog (envE (.int .i64 M :: addE (okR (x.kd k)) (x.kd k) u n s S)) (Vars M) (radC k) := by
 have hs0 : Mo.trill.size <= 1000000 := by decide
 have h2 : (x.kd k).k ≠ 2 := by show k ≠ 2; omega
 have hok : ((.eq (.at 16) (.int 0)) : X).evB (envE (.int .i64 M :: addE (okR (x.kd k)) (x.kd k) u n s S)) = Mo.okB (x.kd k) := okR_ev (x.kd k)
 have hl : ∀ {y : X} {b : Bool}, y = (bif b then .sub .i64 (yX rxN) (.int 1) else yX rxN) -> Fx.Ok (envE (.int .i64 M :: addE (okR (x.kd k)) (x.kd k) u n s S)) (okY (.eq (.at 16) (.int 0)) (yX rxN) y b) -> ∀ (L : Ex.Loc) (w : World), Vars M w -> Calls Tryz.prog 48 (V.dens L (envE (.int .i64 M :: addE (okR (x.kd k)) (x.kd k) u n s S)) [chV k y (mX rxN)]).toArray w fun e w' => e = .returned (.agg (ptL (Mo.later (x.kd k) u).TL).toArray) /\ Below w.heap.size w w' := fun hy hp L w hV => by
  obtain ⟨_, _, q1, q2, q3⟩ := okY_of (N := rxN) h2 hok (fun a b c => rxN_ev a b c) hy hp
  rw [ch_den (by omega) L q2 q3]
  exact rlocal_is _ q1 w M hV
 have hp : ∀ {y : X} {b : Bool}, y = (bif b then .sub .i64 (yX rxN) (.int 1) else yX rxN) -> Fx.Ok (envE (.int .i64 M :: addE (okR (x.kd k)) (x.kd k) u n s S)) (okY (.eq (.at 16) (.int 0)) (yX rxN) y b) -> ∀ (w : World), Vars M w -> Calls Tryz.prog 47 #[.agg (ptL (Mo.later (x.kd k) u).TL).toArray, .agg (ptL (Dc.at_ 60 (rawD n s S))).toArray] w fun e w' => e = .returned (.agg (ptL (Mo.sumT (x.kd k) u n s S)).toArray) /\ Below w.heap.size w w' := fun hy hp w hV => by
  obtain ⟨q4, q5, q1, q2, q3⟩ := okY_of (N := rxN) h2 hok (fun a b c => rxN_ev a b c) hy hp
  have q := sum_small q1 q4 q5
  exact rplus_is _ _ q.1 q.2.1 w M hV
 have ho : ∀ {y : X} {b : Bool}, y = (bif b then .sub .i64 (yX rxN) (.int 1) else yX rxN) -> Fx.Ok (envE (.int .i64 M :: addE (okR (x.kd k)) (x.kd k) u n s S)) (okY (.eq (.at 16) (.int 0)) (yX rxN) y b) -> ∀ (w : World), Vars M w -> Calls Tryz.prog 46 #[.int .i64 k, .agg (ptL (Mo.sumT (x.kd k) u n s S)).toArray] w fun e w' => e = .returned (ofV k (Mo.sumT (x.kd k) u n s S)) /\ Below w.heap.size w w' := fun hy hp w hV => by
  obtain ⟨q4, q5, q1, q2, q3⟩ := okY_of (N := rxN) h2 hok (fun a b c => rxN_ev a b c) hy hp
  have q := sum_small q1 q4 q5
  exact rof_m k _ (by omega) q.2.2 w M hV
 exact ⟨⟨rfl, fk, fun _ L w hV => rcheckm_is (x.kd k) hx w M hV⟩,
  ⟨rfl, fk, fun _ L w hV => rcheck_any n s S hs w⟩,
  ⟨rfl, fk, fun _ L w hV => rcmp_is false s S false Mo.trill 0 hs hs0 _ _ rfl w⟩,
  ⟨rfl, fk, fun hp L w hV => by
   have q := ok_date (okU_of hok hp).1 h2
   obtain ⟨_, q2, _⟩ := q
   exact rcounted_is (x.kd k).y (by omega) w M hV⟩,
  ⟨rfl, fk, fun hp L w hV => by
   obtain ⟨a, a1, a2, a3, a4⟩ := okU_of hok hp
   have hd := ok_date a h2
   obtain ⟨e1, e2, e3⟩ := yX_ev (N := rxN) hd a3 a4 (rxN_ev (M := M) (n := n) (s := s) (S := S) (c := okR (x.kd k)) hd a3 a4)
   have e : V.dens L (envE (.int .i64 M :: addE (okR (x.kd k)) (x.kd k) u n s S)) [.xi .i64 (yX rxN), .xi .i64 (mX rxN)] = [.int .i64 (Mo.mY (x.kd k) u), .int .i64 (Mo.mN (x.kd k) u % 12 + 1)] := by simp only [V.dens, V.den, e1, e3]
   show Calls _ _ (V.dens L (envE (.int .i64 M :: addE (okR (x.kd k)) (x.kd k) u n s S)) [.xi .i64 (yX rxN), .xi .i64 (mX rxN)]).toArray w _
   rw [e]
   exact rlength_is _ _ (by omega) (by omega) w M hV⟩,
  ⟨rfl, fk, fun hp L w hV => rsplit_is n s S _ (sec_add (okA_of hok hp).2.1 (okA_of hok hp).2.2).1 w M hV⟩,
  ⟨rfl, fk, fun hp L w hV => hl (b := true) rfl hp L w hV⟩,
  ⟨rfl, fk, fun hp L w hV => hl (b := false) rfl hp L w hV⟩,
  ⟨rfl, fk, fun h L w hV => hp (b := true) rfl h w hV⟩,
  ⟨rfl, fk, fun h L w hV => hp (b := false) rfl h w hV⟩,
  ⟨rfl, fk, fun h L w hV => ho (b := true) rfl h w hV⟩,
  ⟨rfl, fk, fun h L w hV => ho (b := false) rfl h w hV⟩, trivial⟩
theorem radd_m (hx : x.s.size <= 1000000) (hs : s.size <= 1000000) (w : World) (hV : Vars M w) : Calls Tryz.prog 10 #[x.val, .int .i64 u, .agg #[.bool n, .string s, .int .i64 S]] w fun e w' => e = .returned (addV x u n s S) /\ Below w.heap.size w w' := by
 cases hb : Mo.okB x with
 | false =>
  have hc : AllX Tryz.prog (envE (.int .i64 M :: addE (.int .i64 0) x u n s S)) (Vars M) [⟨16, [moV 1], [], it 2⟩] := ⟨⟨rfl, fk, fun _ L w hV => by
   have := rcheckm_is x hx w M hV
   rw [hb] at this
   exact this⟩, trivial⟩
  have h := tree_run (env := addE (.int .i64 0) x u n s S) rrun_add0 hc rfl trivial rfl hV
  rw [addV_arg (.inl hb)]
  exact h
 | true =>
  rcases ok_kind hb with hk | hk | hk
  ·have h := tree_run (env := addE (okR (x.kd 1)) (x.kd 1) u n s S) rrun_add1 (radk_ok x u n s S M 1 (.inl rfl) hx hs) rfl trivial rfl hV
   rw [adT1_at _ (show (x.kd 1).k ≠ 2 by show (1 : Int) ≠ 2; decide) (okR_ev (x.kd 1)) (fun a b c => rxN_ev a b c)] at h
   have e := Mo.kd_eq hk
   rw [<- e]
   exact h
  ·have h := tree_run (env := addE (okR (x.kd 2)) (x.kd 2) u n s S) rrun_add2 (rad2_ok x u n s S M hx hs) rfl trivial rfl hV
   rw [adT2_at rfl (okR_ev (x.kd 2))] at h
   have e := Mo.kd_eq hk
   rw [<- e]
   exact h
  ·have h := tree_run (env := addE (okR (x.kd 3)) (x.kd 3) u n s S) rrun_add3 (radk_ok x u n s S M 3 (.inr rfl) hx hs) rfl trivial rfl hV
   rw [adT1_at _ (show (x.kd 3).k ≠ 2 by show (3 : Int) ≠ 2; decide) (okR_ev (x.kd 3)) (fun a b c => rxN_ev a b c)] at h
   have e := Mo.kd_eq hk
   rw [<- e]
   exact h
end
end Go.Proofs.YtckodhldimhbfaaGreatDoor
