/-
  Part 37 of the proof: what functions return, and plain facts (Madd3). Conditions: each theorem names its own.
-/
import Derived.Test.YtckodhldimhbfaaGreatDoorG28
set_option maxRecDepth 1000000
set_option maxHeartbeats 16000000
namespace Go.Proofs.YtckodhldimhbfaaGreatDoor
open Go Go.RowKit Go.Ex

def okP (x : Mo) : Value := .bool (Mo.okB x)
theorem okP_ev (x : Mo) {u : Int} {n : Bool} {s : ByteArray} {S M : Int} : (X.at 16).evB (envE (.int .i64 M :: addE (okP x) x u n s S)) = Mo.okB x := rfl
def padC2 : List CallX := [⟨29, [moK 2 1], [], xb 16⟩, ⟨30, [deV 13], [], xi 17⟩, ⟨32, [it 1000000000000], [], tril⟩, ⟨31, [.agg [.bool false, xs 14, xi 15], tril], [], .tup [xi 18, xi 19]⟩, ⟨40, [deV 13], okA (.at 16), ptV 21⟩, ⟨38, [moK 2 1], okA (.at 16), ptV 25⟩, ⟨39, [ptV 25, ptV 21], okA (.at 16), ptV 29⟩, ⟨37, [it 2, ptV 29], okA (.at 16), .tup [moV 33, xi 44]⟩]
theorem prun_add2 : chk (runTr Tryz.prog nG (fun _ => none) gd moT padC2 100 9 [moK 2 1, xi 12, deV 13] h0) (adT2 (.at 16)) [] = true := by decide +kernel
def pxN : X := .add .i64 (.sub .i64 (.add .i64 (.mul .i64 (.int 12) (.add .i64 (.at 20) (.int 40000))) (.at 3)) (.int 1)) (.at 12)
def padC (k : Int) : List CallX := [⟨29, [moK k 1], [], xb 16⟩, ⟨30, [deV 13], [], xi 17⟩, ⟨32, [it 1000000000000], [], tril⟩, ⟨31, [.agg [.bool false, xs 14, xi 15], tril], [], .tup [xi 18, xi 19]⟩, ⟨34, [xi 2], okU (.at 16), xi 20⟩, ⟨35, [.xi .i64 (yX pxN), .xi .i64 (mX pxN)], okU (.at 16), xi 45⟩, ⟨40, [deV 13], okA (.at 16), ptV 21⟩, ⟨38, [chV k (.sub .i64 (yX pxN) (.int 1)) (mX pxN)], okY (.at 16) (yX pxN) (.sub .i64 (yX pxN) (.int 1)) true, ptV 25⟩, ⟨38, [chV k (yX pxN) (mX pxN)], okY (.at 16) (yX pxN) (yX pxN) false, ptV 25⟩, ⟨39, [ptV 25, ptV 21], okY (.at 16) (yX pxN) (.sub .i64 (yX pxN) (.int 1)) true, ptV 29⟩, ⟨39, [ptV 25, ptV 21], okY (.at 16) (yX pxN) (yX pxN) false, ptV 29⟩, ⟨37, [it k, ptV 29], okY (.at 16) (yX pxN) (.sub .i64 (yX pxN) (.int 1)) true, .tup [moV 33, xi 44]⟩, ⟨37, [it k, ptV 29], okY (.at 16) (yX pxN) (yX pxN) false, .tup [moV 33, xi 44]⟩]
theorem prun_add1 : chk (runTr Tryz.prog nG (fun _ => none) gd moT (padC 1) 100 9 [moK 1 1, xi 12, deV 13] h0) (adT1 false (.at 16) pxN) [] = true := by decide +kernel
theorem prun_add3 : chk (runTr Tryz.prog nG (fun _ => none) gd moT (padC 3) 100 9 [moK 3 1, xi 12, deV 13] h0) (adT1 false (.at 16) pxN) [] = true := by decide +kernel
theorem prun_add0 : chk (runTr Tryz.prog nG (fun _ => none) gd moT [⟨29, [moV 1], [], .bool false⟩] 100 9 [moV 1, xi 12, deV 13] h0) (.leaf (zE (it 2))) [] = true := by decide +kernel
theorem pxN_ev {x : Mo} {u : Int} {n : Bool} {s : ByteArray} {S M : Int} {c : Value} (h : Mo.dateOk x) (h1 : -300000 <= u) (h2 : u <= 300000) : pxN.evI (envE (.int .i64 M :: addE c x u n s S)) = Mo.mN x u := by
 have hc := cnt_bd h
 obtain ⟨q1, q2, q3, q4, q5, q6, q7⟩ := h
 have e : pxN.evI (envE (.int .i64 M :: addE c x u n s S)) = IntKind.i64.wrap (IntKind.i64.wrap (IntKind.i64.wrap (IntKind.i64.wrap (12 * IntKind.i64.wrap (Mo.counted x.y + 40000)) + x.m) - 1) + u) := rfl
 rw [e, w64 (n := Mo.counted x.y + 40000) (by omega) (by omega), w64 (n := 12 * (Mo.counted x.y + 40000)) (by omega) (by omega), w64 (n := 12 * (Mo.counted x.y + 40000) + x.m) (by omega) (by omega), w64 (n := 12 * (Mo.counted x.y + 40000) + x.m - 1) (by omega) (by omega), w64 (by omega) (by omega)]
 unfold Mo.mN; omega
section
variable (x : Mo) (u : Int) (n : Bool) (s : ByteArray) (S M : Int)
theorem pad2_ok (hx : x.s.size <= 1000000) (hs : s.size <= 1000000) : AllX Tryz.prog (envE (.int .i64 M :: addE (okP (x.kd 2)) (x.kd 2) u n s S)) (Vars M) padC2 := by
 have hs0 : Mo.trill.size <= 1000000 := by decide
 have hok : ((.at 16) : X).evB (envE (.int .i64 M :: addE (okP (x.kd 2)) (x.kd 2) u n s S)) = Mo.okB (x.kd 2) := okP_ev (x.kd 2)
 exact ⟨⟨rfl, fk, fun _ L w hV => pvalid_is (x.kd 2) hx w M hV⟩,
  ⟨rfl, fk, fun _ L w hV => pcheck_r n s S hs _ rfl w⟩,
  ⟨rfl, fk, fun _ L w hV => pOf_any 1000000000000 (by decide) (by decide) w hV.pow⟩,
  ⟨rfl, fk, fun _ L w hV => pcmp_is false s S false Mo.trill 0 hs hs0 _ _ rfl w⟩,
  ⟨rfl, fk, fun hp L w hV => psplit_is n s S _ (sec_add (okA_of hok hp).2.1 (okA_of hok hp).2.2).1 w M hV⟩,
  ⟨rfl, fk, fun hp L w hV => by
   have := plocal_is (x.kd 2) (okA_of hok hp).1 w M hV
   rw [<- later2 (u := u)] at this; exact this⟩,
  ⟨rfl, fk, fun hp L w hV => by
   have q := sum_small (x := x.kd 2) (u := u) (by rw [later2]; exact (okA_of hok hp).1) (okA_of hok hp).2.1 (okA_of hok hp).2.2
   exact pplus_is (Mo.later (x.kd 2) u).TL _ q.1 q.2.1 w M hV⟩,
  ⟨rfl, fk, fun hp L w hV => by
   have q := sum_small (x := x.kd 2) (u := u) (by rw [later2]; exact (okA_of hok hp).1) (okA_of hok hp).2.1 (okA_of hok hp).2.2
   exact pof_m 2 (Mo.sumT (x.kd 2) u n s S) (.inr (.inl rfl)) q.2.2 w M hV⟩, trivial⟩
theorem padk_ok (k : Int) (hk : k = 1 \/ k = 3) (hx : x.s.size <= 1000000) (hs : s.size <= 1000000) : AllX Tryz.prog (envE (.int .i64 M :: addE (okP (x.kd k)) (x.kd k) u n s S)) (Vars M) (padC k) := by
 have hs0 : Mo.trill.size <= 1000000 := by decide
 have h2 : (x.kd k).k ≠ 2 := by show k ≠ 2; omega
 have hok : ((.at 16) : X).evB (envE (.int .i64 M :: addE (okP (x.kd k)) (x.kd k) u n s S)) = Mo.okB (x.kd k) := okP_ev (x.kd k)
 have hl : ∀ {y : X} {b : Bool}, y = (bif b then .sub .i64 (yX pxN) (.int 1) else yX pxN) -> Fx.Ok (envE (.int .i64 M :: addE (okP (x.kd k)) (x.kd k) u n s S)) (okY (.at 16) (yX pxN) y b) -> ∀ (L : Ex.Loc) (w : World), Vars M w -> Calls Tryz.prog 38 (V.dens L (envE (.int .i64 M :: addE (okP (x.kd k)) (x.kd k) u n s S)) [chV k y (mX pxN)]).toArray w fun e w' => e = .returned (.agg (ptL (Mo.later (x.kd k) u).TL).toArray) /\ Below w.heap.size w w' := fun hy hp L w hV => by
  obtain ⟨_, _, q1, q2, q3⟩ := okY_of (N := pxN) h2 hok (fun a b c => pxN_ev a b c) hy hp
  rw [ch_den (by omega) L q2 q3]
  exact plocal_is _ q1 w M hV
 have hp : ∀ {y : X} {b : Bool}, y = (bif b then .sub .i64 (yX pxN) (.int 1) else yX pxN) -> Fx.Ok (envE (.int .i64 M :: addE (okP (x.kd k)) (x.kd k) u n s S)) (okY (.at 16) (yX pxN) y b) -> ∀ (w : World), Vars M w -> Calls Tryz.prog 39 #[.agg (ptL (Mo.later (x.kd k) u).TL).toArray, .agg (ptL (Dc.at_ 60 (rawD n s S))).toArray] w fun e w' => e = .returned (.agg (ptL (Mo.sumT (x.kd k) u n s S)).toArray) /\ Below w.heap.size w w' := fun hy hp w hV => by
  obtain ⟨q4, q5, q1, q2, q3⟩ := okY_of (N := pxN) h2 hok (fun a b c => pxN_ev a b c) hy hp
  have q := sum_small q1 q4 q5
  exact pplus_is _ _ q.1 q.2.1 w M hV
 have ho : ∀ {y : X} {b : Bool}, y = (bif b then .sub .i64 (yX pxN) (.int 1) else yX pxN) -> Fx.Ok (envE (.int .i64 M :: addE (okP (x.kd k)) (x.kd k) u n s S)) (okY (.at 16) (yX pxN) y b) -> ∀ (w : World), Vars M w -> Calls Tryz.prog 37 #[.int .i64 k, .agg (ptL (Mo.sumT (x.kd k) u n s S)).toArray] w fun e w' => e = .returned (ofV k (Mo.sumT (x.kd k) u n s S)) /\ Below w.heap.size w w' := fun hy hp w hV => by
  obtain ⟨q4, q5, q1, q2, q3⟩ := okY_of (N := pxN) h2 hok (fun a b c => pxN_ev a b c) hy hp
  have q := sum_small q1 q4 q5
  exact pof_m k _ (by omega) q.2.2 w M hV
 exact ⟨⟨rfl, fk, fun _ L w hV => pvalid_is (x.kd k) hx w M hV⟩,
  ⟨rfl, fk, fun _ L w hV => pcheck_r n s S hs _ rfl w⟩,
  ⟨rfl, fk, fun _ L w hV => pOf_any 1000000000000 (by decide) (by decide) w hV.pow⟩,
  ⟨rfl, fk, fun _ L w hV => pcmp_is false s S false Mo.trill 0 hs hs0 _ _ rfl w⟩,
  ⟨rfl, fk, fun hp L w hV => by
   have q := ok_date (okU_of hok hp).1 h2
   obtain ⟨_, q2, _⟩ := q
   exact pcounted_is (x.kd k).y (by omega) w M hV⟩,
  ⟨rfl, fk, fun hp L w hV => by
   obtain ⟨a, a1, a2, a3, a4⟩ := okU_of hok hp
   have hd := ok_date a h2
   obtain ⟨e1, e2, e3⟩ := yX_ev (N := pxN) hd a3 a4 (pxN_ev (M := M) (n := n) (s := s) (S := S) (c := okP (x.kd k)) hd a3 a4)
   have e : V.dens L (envE (.int .i64 M :: addE (okP (x.kd k)) (x.kd k) u n s S)) [.xi .i64 (yX pxN), .xi .i64 (mX pxN)] = [.int .i64 (Mo.mY (x.kd k) u), .int .i64 (Mo.mN (x.kd k) u % 12 + 1)] := by simp only [V.dens, V.den, e1, e3]
   show Calls _ _ (V.dens L (envE (.int .i64 M :: addE (okP (x.kd k)) (x.kd k) u n s S)) [.xi .i64 (yX pxN), .xi .i64 (mX pxN)]).toArray w _
   rw [e]
   exact plength_is _ _ (by omega) (by omega) w M hV⟩,
  ⟨rfl, fk, fun hp L w hV => psplit_is n s S _ (sec_add (okA_of hok hp).2.1 (okA_of hok hp).2.2).1 w M hV⟩,
  ⟨rfl, fk, fun hp L w hV => hl (b := true) rfl hp L w hV⟩,
  ⟨rfl, fk, fun hp L w hV => hl (b := false) rfl hp L w hV⟩,
  ⟨rfl, fk, fun h L w hV => hp (b := true) rfl h w hV⟩,
  ⟨rfl, fk, fun h L w hV => hp (b := false) rfl h w hV⟩,
  ⟨rfl, fk, fun h L w hV => ho (b := true) rfl h w hV⟩,
  ⟨rfl, fk, fun h L w hV => ho (b := false) rfl h w hV⟩, trivial⟩
theorem padd_m (hx : x.s.size <= 1000000) (hs : s.size <= 1000000) (w : World) (hV : Vars M w) : Calls Tryz.prog 9 #[x.val, .int .i64 u, .agg #[.bool n, .string s, .int .i64 S]] w fun e w' => e = .returned (addV x u n s S) /\ Below w.heap.size w w' := by
 cases hb : Mo.okB x with
 | false =>
  have hc : AllX Tryz.prog (envE (.int .i64 M :: addE (.int .i64 0) x u n s S)) (Vars M) [⟨29, [moV 1], [], .bool false⟩] := ⟨⟨rfl, fk, fun _ L w hV => by
   have := pvalid_is x hx w M hV
   rw [hb] at this
   exact this⟩, trivial⟩
  have h := tree_run (env := addE (.int .i64 0) x u n s S) prun_add0 hc rfl trivial rfl hV
  rw [addV_arg (.inl hb)]
  exact h
 | true =>
  rcases ok_kind hb with hk | hk | hk
  ·have h := tree_run (env := addE (okP (x.kd 1)) (x.kd 1) u n s S) prun_add1 (padk_ok x u n s S M 1 (.inl rfl) hx hs) rfl trivial rfl hV
   rw [adT1_at _ (show (x.kd 1).k ≠ 2 by show (1 : Int) ≠ 2; decide) (okP_ev (x.kd 1)) (fun a b c => pxN_ev a b c)] at h
   have e := Mo.kd_eq hk
   rw [<- e]
   exact h
  ·have h := tree_run (env := addE (okP (x.kd 2)) (x.kd 2) u n s S) prun_add2 (pad2_ok x u n s S M hx hs) rfl trivial rfl hV
   rw [adT2_at rfl (okP_ev (x.kd 2))] at h
   have e := Mo.kd_eq hk
   rw [<- e]
   exact h
  ·have h := tree_run (env := addE (okP (x.kd 3)) (x.kd 3) u n s S) prun_add3 (padk_ok x u n s S M 3 (.inr rfl) hx hs) rfl trivial rfl hV
   rw [adT1_at _ (show (x.kd 3).k ≠ 2 by show (3 : Int) ≠ 2; decide) (okP_ev (x.kd 3)) (fun a b c => pxN_ev a b c)] at h
   have e := Mo.kd_eq hk
   rw [<- e]
   exact h
end
end Go.Proofs.YtckodhldimhbfaaGreatDoor
