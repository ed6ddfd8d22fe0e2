/-
  Part 40 of the proof: what functions return, and plain facts (Mlaws1). Conditions: each theorem names its own.
-/
import Derived.Test.YtckodhldimhbfaaGreatDoorG38
import Derived.Test.YtckodhldimhbfaaGreatDoorG39
set_option maxRecDepth 1000000
set_option maxHeartbeats 16000000
namespace Go.Proofs.YtckodhldimhbfaaGreatDoor
open Go Go.RowKit Go.Ex

def longT (i j : Nat) : Tree := .node (.lt (.int 300) (.len (.at i))) (.leaf (.bool true)) (.node (.lt (.int 300) (.len (.at j))) (.leaf (.bool true)) (.leaf (.bool true)))
theorem longT_at (i j : Nat) (E : Nat -> Value) : ((longT i j).at E).den L0 E = .bool true := by
 unfold longT
 simp only [Tree.at]
 cases X.evB E (.lt (.int 300) (.len (.at i))) <;> cases X.evB E (.lt (.int 300) (.len (.at j))) <;> rfl
def adsC : List CallX := [⟨8, [], [], .bool true⟩, ⟨9, [moV 1, xi 12, deV 13], [upTo 8, upTo 14], .tup [moV 16, xi 27]⟩, ⟨10, [moV 1, xi 12, deV 13], [upTo 8, upTo 14], .tup [moV 16, xi 27]⟩]
noncomputable def adsE (x : Mo) (u : Int) (n : Bool) (s : ByteArray) (S : Int) : List Value := x.list ++ [.int .i64 u, .bool n, .string s, .int .i64 S] ++ (Mo.addM x u n s S).1.list ++ [.int .i64 (Mo.addM x u n s S).2]
theorem run_adds : chk (runTr Tryz.prog nG (fun _ => none) gd moT adsC 100 3 [moV 1, xi 12, deV 13] h0) (longT 8 14) [] = true := by decide +kernel
theorem ads_ok (x : Mo) (u : Int) (n : Bool) (s : ByteArray) (S M : Int) : AllX Tryz.prog (envE (.int .i64 M :: adsE x u n s S)) (Vars M) adsC := by
 have k : Fx.Ok (envE (.int .i64 M :: adsE x u n s S)) [upTo 8, upTo 14] -> x.s.size <= 300 /\ s.size <= 300 := fun hp => ⟨upTo_le hp.1, upTo_le hp.2.1⟩
 exact ⟨⟨rfl, fk, fun _ L w hV => shown_is w M hV⟩,
  ⟨rfl, fk, fun hp L w hV => padd_m (x := x) (u := u) (n := n) (s := s) (S := S) (hx := by have := (k hp).1; omega) (hs := by have := (k hp).2; omega) (w := w) (hV := hV)⟩,
  ⟨rfl, fk, fun hp L w hV => radd_m (x := x) (u := u) (n := n) (s := s) (S := S) (hx := by have := (k hp).1; omega) (hs := by have := (k hp).2; omega) (w := w) (hV := hV)⟩, trivial⟩
theorem adds_is (x : Mo) (u : Int) (n : Bool) (s : ByteArray) (S : Int) (w : World) (M : Int) (hV : Vars M w) : Calls Tryz.prog 3 #[x.val, .int .i64 u, .agg #[.bool n, .string s, .int .i64 S]] w fun e w' => e = .returned (.bool true) /\ Below w.heap.size w w' := by
 have h := tree_run (env := adsE x u n s S) run_adds (ads_ok x u n s S M) rfl trivial rfl hV
 rw [longT_at] at h
 exact h
def orsC : List CallX := [⟨8, [], [], .bool true⟩, ⟨17, [moV 1], [upTo 8], .tup [xi 23, xi 24]⟩, ⟨18, [moV 1], [upTo 8], .tup [xi 23, xi 24]⟩, ⟨19, [moV 1], [upTo 8], .tup [moV 25, xi 36]⟩, ⟨20, [moV 1], [upTo 8], .tup [moV 25, xi 36]⟩,
 ⟨21, [moV 1, moV 12], [upTo 8, upTo 19], .tup [xi 37, xb 38, xi 39]⟩, ⟨22, [moV 1, moV 12], [upTo 8, upTo 19], .tup [xi 37, xb 38, xi 39]⟩, ⟨23, [moV 1, moV 12], [upTo 8, upTo 19], .tup [xb 40, xi 41]⟩, ⟨24, [moV 1, moV 12], [upTo 8, upTo 19], .tup [xb 40, xi 41]⟩]
noncomputable def orsE (a b : Mo) : List Value := a.list ++ b.list ++ [.int .i64 (daysM a).1, .int .i64 (daysM a).2] ++ (normalM a).1.list ++ [.int .i64 (normalM a).2, .int .i64 (cmpM a b).1, .bool (cmpM a b).2.1, .int .i64 (cmpM a b).2.2, .bool (equalM a b).1, .int .i64 (equalM a b).2]
theorem run_orders : chk (runTr Tryz.prog nG (fun _ => none) gd moT orsC 100 5 [moV 1, moV 12] h0) (longT 8 19) [] = true := by decide +kernel
theorem ors_ok (a b : Mo) (M : Int) : AllX Tryz.prog (envE (.int .i64 M :: orsE a b)) (Vars M) orsC := by
 have k1 : Fx.Ok (envE (.int .i64 M :: orsE a b)) [upTo 8] -> a.s.size <= 1000000 := fun hp => by have := upTo_le (n := a.s.size) hp.1; omega
 have k : Fx.Ok (envE (.int .i64 M :: orsE a b)) [upTo 8, upTo 19] -> a.s.size <= 1000000 /\ b.s.size <= 1000000 := fun hp => by have := upTo_le (n := a.s.size) hp.1; have := upTo_le (n := b.s.size) hp.2.1; omega
 exact ⟨⟨rfl, fk, fun _ L w hV => shown_is w M hV⟩,
  ⟨rfl, fk, fun hp L w hV => pdaysm_is a (k1 hp) _ _ rfl w M hV⟩,
  ⟨rfl, fk, fun hp L w hV => rdaysm_is a (k1 hp) _ _ rfl w M hV⟩,
  ⟨rfl, fk, fun hp L w hV => pnormal_is a (k1 hp) _ _ rfl w M hV⟩,
  ⟨rfl, fk, fun hp L w hV => rnormal_is a (k1 hp) _ _ rfl w M hV⟩,
  ⟨rfl, fk, fun hp L w hV => pcmpm_is a b (k hp).1 (k hp).2 _ _ _ rfl w M hV⟩,
  ⟨rfl, fk, fun hp L w hV => rcmpm_is a b (k hp).1 (k hp).2 _ _ _ rfl w M hV⟩,
  ⟨rfl, fk, fun hp L w hV => pequalm_is a b (k hp).1 (k hp).2 _ _ rfl w M hV⟩,
  ⟨rfl, fk, fun hp L w hV => requalm_is a b (k hp).1 (k hp).2 _ _ rfl w M hV⟩, trivial⟩
theorem orders_is (a b : Mo) (w : World) (M : Int) (hV : Vars M w) : Calls Tryz.prog 5 #[a.val, b.val] w fun e w' => e = .returned (.bool true) /\ Below w.heap.size w w' := by
 have h := tree_run (env := orsE a b) run_orders (ors_ok a b M) rfl trivial rfl hV
 rw [longT_at] at h
 exact h
def txsC : List CallX := [⟨8, [], [], .bool true⟩, ⟨11, [xi 1, xs 2], [upTo 2], .tup [moV 14, xi 25]⟩, ⟨12, [xi 1, xs 2], [upTo 2], .tup [moV 14, xi 25]⟩, ⟨13, [moV 3], [upTo 10], .tup [xs 26, xi 27]⟩, ⟨14, [moV 3], [upTo 10], .tup [xs 26, xi 27]⟩, ⟨15, [moV 3], [upTo 10], xi 28⟩, ⟨16, [moV 3], [upTo 10], xi 28⟩]
def txsE (k : Int) (l : ByteArray) (x : Mo) : List Value := [.int .i64 k, .string l] ++ x.list ++ (Mo.readM k (bts l)).1.list ++ [.int .i64 (Mo.readM k (bts l)).2, .string (Mo.textM x).1, .int .i64 (Mo.textM x).2, .int .i64 (bif Mo.okB x then 0 else 2)]
theorem run_texts : chk (runTr Tryz.prog nG (fun _ => none) gd moT txsC 100 4 [xi 1, xs 2, moV 3] h0) (longT 2 10) [] = true := by decide +kernel
theorem txs_ok (kd : Int) (l : ByteArray) (x : Mo) (M : Int) : AllX Tryz.prog (envE (.int .i64 M :: txsE kd l x)) (Vars M) txsC := by
 have k1 : Fx.Ok (envE (.int .i64 M :: txsE kd l x)) [upTo 2] -> l.size <= 300 := fun hp => upTo_le hp.1
 have k2 : Fx.Ok (envE (.int .i64 M :: txsE kd l x)) [upTo 10] -> x.s.size <= 1000000 := fun hp => by have := upTo_le (n := x.s.size) hp.1; omega
 exact ⟨⟨rfl, fk, fun _ L w hV => shown_is w M hV⟩,
  ⟨rfl, fk, fun hp L w hV => pread_m kd l (k1 hp) w M hV⟩,
  ⟨rfl, fk, fun hp L w hV => rread_m kd l (k1 hp) w M hV⟩,
  ⟨rfl, fk, fun hp L w hV => ptext_m x (k2 hp) w M hV⟩,
  ⟨rfl, fk, fun hp L w hV => rtext_m x (k2 hp) w M hV⟩,
  ⟨rfl, fk, fun hp L w hV => pcheckm_is x (k2 hp) w M hV⟩,
  ⟨rfl, fk, fun hp L w hV => rcheckm_is x (k2 hp) w M hV⟩, trivial⟩
theorem texts_is (kd : Int) (l : ByteArray) (x : Mo) (w : World) (M : Int) (hV : Vars M w) : Calls Tryz.prog 4 #[.int .i64 kd, .string l, x.val] w fun e w' => e = .returned (.bool true) /\ Below w.heap.size w w' := by
 have h := tree_run (env := txsE kd l x) run_texts (txs_ok kd l x M) rfl trivial rfl hV
 rw [longT_at] at h
 exact h
end Go.Proofs.YtckodhldimhbfaaGreatDoor
