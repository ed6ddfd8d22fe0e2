/-
  Part 28 of the proof: what functions return, and plain facts (Mrtext). Conditions: each theorem names its own.
-/
import Derived.Test.YthoojcdjjecogaaGreatDoorG21
import Derived.Test.YthoojcdjjecogaaGreatDoorG27
import Derived.Test.YthoojcdjjecogaaGreatDoorG11
set_option maxRecDepth 1000000
set_option maxHeartbeats 16000000
namespace Go.Proofs.YthoojcdjjecogaaGreatDoor
open Go Go.RowKit Go.Ex
def catX (s : X) : List X -> X
 | [] => s
 | p :: l => catX (.cat s p) l
def fitsF (s : X) : List X -> Fx
 | [] => []
 | p :: l => (.fits s p, true) :: fitsF (.cat s p) l
def sumS (E : Nat -> Value) : List X -> Nat
 | [] => 0
 | p :: l => (p.evS E).size + sumS E l
theorem cat_size (a b : ByteArray) : (a ++ b).size = a.size + b.size := by rw [<- bts_length, str_add, List.length_append, bts_length, bts_length]
theorem fits_ok {E : Nat -> Value} : ∀ {l : List X} {s : X}, (s.evS E).size + sumS E l <= 1000000 -> Fx.Ok E (fitsF s l)
 | [], _, _ => trivial
 | p :: l, s, h => by
  have h : (s.evS E).size + ((p.evS E).size + sumS E l) <= 1000000 := h
  refine ⟨?_, fits_ok ?_⟩
  ·show decide ((s.evS E).size + (p.evS E).size <= 9223372036854775807) = true
   exact decide_eq_true (by omega)
  ·show (s.evS E ++ p.evS E).size + _ <= _
   rw [cat_size]; omega
theorem catX_bts {E : Nat -> Value} : ∀ {l : List X} {s : X}, bts ((catX s l).evS E) = bts (s.evS E) ++ (l.map fun p => bts (p.evS E)).flatten
 | [], s => by simp [catX]
 | p :: l, s => by
  have e : (X.cat s p).evS E = s.evS E ++ p.evS E := rfl
  rw [catX, catX_bts, e, str_add, List.append_assoc]; rfl
theorem Fx_append {E : Nat -> Value} : ∀ {F G : Fx}, Fx.Ok E F -> Fx.Ok E G -> Fx.Ok E (F ++ G)
 | [], _, _, h => h
 | _ :: _, _, h, k => ⟨h.1, Fx_append h.2 k⟩
def lfX (s : X) (l : List X) : Tree := .leaf (.tup [.xs (catX s l), it 0])
def zM : List X := [.str [45], .at 19, .str [58], .at 20]
def zP : List X := [.str [43], .at 19, .str [58], .at 20]
def zoT (s : X) (l : List X) : Tree := .node (.at 10) (.node (.eq (.at 11) (.int 0)) (lfX s (l ++ [.str [90]])) (.node (.lt (.at 11) (.int 0)) (lfX s (l ++ zM)) (lfX s (l ++ zP)))) (lfX s l)
def zoF (s : X) (l : List X) : Fx := fitsF s (l ++ [.str [90]]) ++ (fitsF s (l ++ zM) ++ fitsF s (l ++ zP))
def daL : List X := [.at 12, .str [45], .at 13, .str [45], .at 14]
def tiL (q : X) : List X := [.at 15, .str [58], .at 16, .str [58], q]
def pz : X := .cat (.str [48]) (.at 17)
def seT (long : Bool) (t : X -> Tree) : Tree := bif long then .node (.eq (.idx (.at 17) (.int 1)) (.int 46)) (t pz) (t (.at 17)) else t pz
def seF (long : Bool) : Fx := [(.lt (.len (.at 17)) (.int 2), !long), (.lt (.int 1) (.len (.at 17)), long), (.fits (.str [48]) (.at 17), true)]
def neT (t : X -> Tree) : Tree := .node (.lt (.at 2) (.int 0)) (t (.str [45])) (t (.str []))
def txT1 : Tree := neT fun s => zoT s daL
def txT2 (long : Bool) : Tree := seT long fun q => zoT (.str []) (tiL q)
def txT3 (long : Bool) : Tree := neT fun s => seT long fun q => zoT s (daL ++ .str [84] :: tiL q)
def txF1 : Fx := zoF (.str [45]) daL ++ zoF (.str []) daL
def txF2 (long : Bool) : Fx := seF long ++ (zoF (.str []) (tiL pz) ++ zoF (.str []) (tiL (.at 17)))
def txF3 (long : Bool) : Fx := seF long ++ ((zoF (.str [45]) (daL ++ .str [84] :: tiL pz) ++ zoF (.str [45]) (daL ++ .str [84] :: tiL (.at 17))) ++ (zoF (.str []) (daL ++ .str [84] :: tiL pz) ++ zoF (.str []) (daL ++ .str [84] :: tiL (.at 17))))
def ye (b : Bool) : Fx := [(.lt (.at 2) (.int 0), b)]
def ze2 (b : Bool) : Fx := [(.lt (.at 11) (.int 0), b)]
def rtxC (k : Int) : List CallX := [⟨40, [moK k 1], [], it 0⟩, ⟨62, [xi 2, it 4], ye false, xs 12⟩, ⟨62, [.xi .i64 (.neg .i64 (.at 2)), it 4], ye true, xs 12⟩, ⟨62, [xi 3, it 2], [], xs 13⟩, ⟨62, [xi 4, it 2], [], xs 14⟩, ⟨62, [xi 5, it 2], [], xs 15⟩, ⟨62, [xi 6, it 2], [], xs 16⟩, ⟨32, [deV 7], [], .tup [xs 17, xi 18]⟩,
 ⟨62, [.xi .i64 (.quo .i64 (.at 11) (.int 60)), it 2], ze2 false, xs 19⟩, ⟨62, [.xi .i64 (.quo .i64 (.neg .i64 (.at 11)) (.int 60)), it 2], ze2 true, xs 19⟩, ⟨62, [.xi .i64 (.rem (.at 11) (.int 60)), it 2], ze2 false, xs 20⟩, ⟨62, [.xi .i64 (.rem (.neg .i64 (.at 11)) (.int 60)), it 2], ze2 true, xs 20⟩]
theorem rrun_tx1 : chk (runTr Tryz.prog nG (fun _ => none) gd moT (rtxC 1) 100 33 [moK 1 1] h0) txT1 txF1 = true := by decide +kernel
theorem rrun_tx2a : chk (runTr Tryz.prog nG (fun _ => none) gd moT (rtxC 2) 100 33 [moK 2 1] h0) (txT2 true) (txF2 true) = true := by decide +kernel
theorem rrun_tx2b : chk (runTr Tryz.prog nG (fun _ => none) gd moT (rtxC 2) 100 33 [moK 2 1] h0) (txT2 false) (txF2 false) = true := by decide +kernel
theorem rrun_tx3a : chk (runTr Tryz.prog nG (fun _ => none) gd moT (rtxC 3) 100 33 [moK 3 1] h0) (txT3 true) (txF3 true) = true := by decide +kernel
theorem rrun_tx3b : chk (runTr Tryz.prog nG (fun _ => none) gd moT (rtxC 3) 100 33 [moK 3 1] h0) (txT3 false) (txF3 false) = true := by decide +kernel
theorem rrun_tx0 : chk (runTr Tryz.prog nG (fun _ => none) gd moT [⟨40, [moV 1], [], it 2⟩] 100 33 [moV 1] h0) (.leaf (.tup [.str [], it 2])) [] = true := by decide +kernel
def txE (x : Mo) : List Value := x.list ++ [.string (str (twoL 4 x.y.natAbs)), .string (str (twoL 2 x.m.natAbs)), .string (str (twoL 2 x.d.natAbs)), .string (str (twoL 2 x.h.natAbs)), .string (str (twoL 2 x.i.natAbs)), .string (textR x.n x.s x.S).1, .int .i64 (textR x.n x.s x.S).2, .string (str (twoL 2 (x.o.natAbs / 60))), .string (str (twoL 2 (x.o.natAbs % 60)))]
theorem ok_low {x : Mo} (h : Mo.Ok x) : -9999 <= x.y /\ x.y <= 9999 /\ 0 <= x.m /\ x.m <= 12 /\ 0 <= x.d /\ x.d <= 31 /\ 0 <= x.h /\ x.h <= 23 /\ 0 <= x.i /\ x.i <= 59 := by
 obtain ⟨hk, _, _, _, h4, h5⟩ := h
 have a : -9999 <= x.y /\ x.y <= 9999 /\ 0 <= x.m /\ x.m <= 12 /\ 0 <= x.d /\ x.d <= 31 := by
  by_cases h2 : x.k = 2
  ·rw [if_pos h2] at h4; obtain ⟨a, b, c⟩ := h4; omega
  ·rw [if_neg h2] at h4
   obtain ⟨_, q1, q2, q3, q4, q5, q6⟩ := h4
   have := Mo.dim_bd (Mo.counted x.y) x.m
   omega
 have b : 0 <= x.h /\ x.h <= 23 /\ 0 <= x.i /\ x.i <= 59 := by
  by_cases h1 : x.k = 1
  ·rw [if_pos h1] at h5; obtain ⟨a, b, _⟩ := h5; omega
  ·rw [if_neg h1] at h5; obtain ⟨_, q1, q2, q3, q4⟩ := h5; omega
 omega
theorem rtwo_f (z : Int) (n m : Nat) (hz : z = n) (hm : m <= 4) (hn : n <= 1000000) (w : World) : Calls Tryz.prog 62 #[.int .i64 z, .int .i64 (m : Int)] w fun e w' => e = .returned (.string (str (twoL m n))) /\ Below w.heap.size w w' := by
 subst hz
 refine (rtwo_is n m hm hn w).mono ?_
 rintro e w' ⟨t, rfl, rfl, hb⟩
 exact ⟨rfl, hb⟩
theorem neg_ev {E : Nat -> Value} {z : Int} {i : Nat} (h : E i = .int .i64 z) (h0 : -100000 <= z) (h1 : z <= 100000) : (X.neg .i64 (.at i)).evI E = -z := by
 have e : (X.neg .i64 (.at i)).evI E = IntKind.i64.wrap (-(X.at i).evI E) := rfl
 have e2 : (X.at i).evI E = z := by simp only [X.evI, h]
 rw [e, e2, w64 (by omega) (by omega)]
theorem quo_ev {E : Nat -> Value} {e : X} {z : Int} (h : e.evI E = z) (h0 : 0 <= z) (h1 : z <= 100000) : (X.quo .i64 e (.int 60)).evI E = z / 60 /\ (X.rem e (.int 60)).evI E = z % 60 := by
 have e1 : (X.quo .i64 e (.int 60)).evI E = IntKind.i64.wrap ((e.evI E).tdiv 60) := rfl
 have e2 : (X.rem e (.int 60)).evI E = (e.evI E).tmod 60 := rfl
 rw [e1, e2, h, Int.tdiv_eq_ediv_of_nonneg h0, Int.tmod_eq_emod_of_nonneg h0, w64 (by omega) (by omega)]
 exact ⟨rfl, rfl⟩
theorem rtx_ok (x : Mo) (k : Int) (hk : x.k = k) (h : Mo.Ok x) (hx : x.s.size <= 1000000) (M : Int) : AllX Tryz.prog (envE (.int .i64 M :: txE x)) (Vars M) (rtxC k) := by
 obtain ⟨y0, y1, m0, m1, d0, d1, h0, h1, i0, i1⟩ := ok_low h
 have hO := h
 obtain ⟨_, z0, z1, _⟩ := h
 have two : ∀ (pre : Fx) (e : X) (n : Nat) (m : Nat) (j : Nat), m <= 4 -> n <= 1000000 -> (Fx.Ok (envE (.int .i64 M :: txE x)) pre -> e.evI (envE (.int .i64 M :: txE x)) = n) -> (xs j).den L0 (envE (.int .i64 M :: txE x)) = .string (str (twoL m n)) -> CallX.Ok Tryz.prog (envE (.int .i64 M :: txE x)) (Vars M) ⟨62, [.xi .i64 e, it (m : Int)], pre, xs j⟩ := fun pre e n m j hm hn he hj => by
  refine ⟨rfl, fk, fun hp L w hV => ?_⟩
  have e1 : V.dens L (envE (.int .i64 M :: txE x)) [.xi .i64 e, it (m : Int)] = [.int .i64 (n : Int), .int .i64 (m : Int)] := by simp only [V.dens, V.den, it, he hp]
  have e2 : (xs j).den L (envE (.int .i64 M :: txE x)) = .string (str (twoL m n)) := hj
  show Calls _ _ (V.dens L (envE (.int .i64 M :: txE x)) [.xi .i64 e, it (m : Int)]).toArray w fun q w' => q = .returned ((xs j).den L (envE (.int .i64 M :: txE x))) /\ Below w.heap.size w w'
  rw [e1]
  refine (rtwo_f n n m rfl hm hn w).mono ?_
  rintro r w' ⟨rfl, hb⟩
  exact ⟨by rw [e2], hb⟩
 have at2 : envE (.int .i64 M :: txE x) 2 = .int .i64 x.y := rfl
 have at11 : envE (.int .i64 M :: txE x) 11 = .int .i64 x.o := rfl
 have yl : ∀ b, Fx.Ok (envE (.int .i64 M :: txE x)) (ye b) -> decide (x.y < 0) = b := fun b hp => hp.1
 have ol : ∀ b, Fx.Ok (envE (.int .i64 M :: txE x)) (ze2 b) -> decide (x.o < 0) = b := fun b hp => hp.1
 have nz : (X.neg .i64 (.at 11)).evI (envE (.int .i64 M :: txE x)) = -x.o := neg_ev at11 (by omega) (by omega)
 refine ⟨⟨rfl, fk, fun _ L w hV => ?_⟩, two _ _ x.y.natAbs 4 12 (by decide) (by omega) (fun hp => ?_) rfl, two _ _ x.y.natAbs 4 12 (by decide) (by omega) (fun hp => ?_) rfl, two _ _ x.m.natAbs 2 13 (by decide) (by omega) (fun _ => ?_) rfl, two _ _ x.d.natAbs 2 14 (by decide) (by omega) (fun _ => ?_) rfl, two _ _ x.h.natAbs 2 15 (by decide) (by omega) (fun _ => ?_) rfl, two _ _ x.i.natAbs 2 16 (by decide) (by omega) (fun _ => ?_) rfl,
  ⟨rfl, fk, fun _ L w hV => rtext_is x.n x.s x.S hx _ _ rfl w⟩, two _ _ (x.o.natAbs / 60) 2 19 (by decide) (by omega) (fun hp => ?_) rfl, two _ _ (x.o.natAbs / 60) 2 19 (by decide) (by omega) (fun hp => ?_) rfl, two _ _ (x.o.natAbs % 60) 2 20 (by decide) (by omega) (fun hp => ?_) rfl, two _ _ (x.o.natAbs % 60) 2 20 (by decide) (by omega) (fun hp => ?_) rfl, trivial⟩
 ·have := rcheckm_is x hx w M hV
  rw [show Mo.okB x = true from decide_eq_true hO] at this
  have e : V.dens L (envE (.int .i64 M :: txE x)) [moK k 1] = [x.val] := by subst hk; rfl
  show Calls _ _ (V.dens L (envE (.int .i64 M :: txE x)) [moK k 1]).toArray w _
  rw [e]
  exact this
 ·show x.y = _
  have := of_decide_eq_false (yl false hp); omega
 ·rw [neg_ev at2 (by omega) (by omega)]
  have := of_decide_eq_true (yl true hp); omega
 ·show x.m = _; omega
 ·show x.d = _; omega
 ·show x.h = _; omega
 ·show x.i = _; omega
 ·have q := of_decide_eq_false (ol false hp)
  rw [(quo_ev (show (X.at 11).evI (envE (.int .i64 M :: txE x)) = x.o from rfl) (by omega) (by omega)).1]; omega
 ·have q := of_decide_eq_true (ol true hp)
  rw [(quo_ev nz (by omega) (by omega)).1]; omega
 ·have q := of_decide_eq_false (ol false hp)
  rw [(quo_ev (show (X.at 11).evI (envE (.int .i64 M :: txE x)) = x.o from rfl) (by omega) (by omega)).2]; omega
 ·have q := of_decide_eq_true (ol true hp)
  rw [(quo_ev nz (by omega) (by omega)).2]; omega
theorem pad2 {n : Nat} (h : n < 100) : twoL 2 n = Dc.pad 2 n := twoL_pad h (by decide)
theorem pad4 {n : Nat} (h : n < 10000) : twoL 4 n = Dc.pad 4 n := twoL_pad h (by decide)
theorem pieces {E : Nat -> Value} {s : X} {l m : List X} {A : List Nat} (hA : bts ((catX s l).evS E) = A) : (catX s (l ++ m)).evS E = str (A ++ (m.map fun p => bts (p.evS E)).flatten) := by
 rw [<- str_bts ((catX s (l ++ m)).evS E), catX_bts, List.map_append, List.flatten_append, <- List.append_assoc, <- catX_bts, hA]
theorem at_evS {E : Nat -> Value} {i : Nat} {t : ByteArray} (h : E i = .string t) : (X.at i).evS E = t := by simp only [X.evS, h]
theorem lit_evS {E : Nat -> Value} (l : List Nat) (h : ∀ c ∈ l, c < 256) : bts ((X.str l).evS E) = l := bts_str l h
theorem zoT_at {x : Mo} {E : Nat -> Value} (h10 : E 10 = .bool x.z) (h11 : E 11 = .int .i64 x.o) (h19 : E 19 = .string (str (twoL 2 (x.o.natAbs / 60)))) (h20 : E 20 = .string (str (twoL 2 (x.o.natAbs % 60)))) (z0 : -840 <= x.o) (z1 : x.o <= 840) {s : X} {l : List X} {A : List Nat} (hA : bts ((catX s l).evS E) = A) : ((zoT s l).at E).den L0 E = .tuple #[.string (str (A ++ Mo.zoneL x)), .int .i64 0] := by
 have lf : ∀ m : List X, ((lfX s (l ++ m)).at E).den L0 E = .tuple #[.string (str (A ++ (m.map fun p => bts (p.evS E)).flatten)), .int .i64 0] := fun m => by
  rw [<- pieces hA]; rfl
 have p1 : bts ((X.at 19).evS E) = Dc.pad 2 (x.o.natAbs / 60) := by rw [at_evS h19, bts_str _ (twoL_lt _ _), pad2 (by omega)]
 have p2 : bts ((X.at 20).evS E) = Dc.pad 2 (x.o.natAbs % 60) := by rw [at_evS h20, bts_str _ (twoL_lt _ _), pad2 (by omega)]
 have q58 : bts ((X.str [58]).evS E) = [58] := lit_evS _ (by decide)
 have q45 : bts ((X.str [45]).evS E) = [45] := lit_evS _ (by decide)
 have q43 : bts ((X.str [43]).evS E) = [43] := lit_evS _ (by decide)
 have q90 : bts ((X.str [90]).evS E) = [90] := lit_evS _ (by decide)
 unfold Mo.zoneL
 simp only [zoT, Tree.at, X.evB, X.evI, h10, h11]
 cases x.z with
 | false =>
  have := lf []
  rw [List.append_nil] at this
  rw [if_pos rfl]
  exact this
 | true =>
  rw [if_neg (by decide)]
  simp only [cond_true]
  by_cases h0 : x.o = 0
  ·rw [decide_eq_true h0, if_pos h0]
   have := lf [.str [90]]
   simp only [List.map_cons, List.map_nil, List.flatten_cons, List.flatten_nil, q90, List.append_nil] at this
   exact this
  ·rw [decide_eq_false h0, if_neg h0]
   by_cases hn : x.o < 0
   ·rw [decide_eq_true hn, if_neg (by omega)]
    have := lf zM
    simp only [zM, List.map_cons, List.map_nil, List.flatten_cons, List.flatten_nil, q45, q58, p1, p2, List.append_nil] at this
    exact this
   ·rw [decide_eq_false hn, if_pos (by omega)]
    have := lf zP
    simp only [zP, List.map_cons, List.map_nil, List.flatten_cons, List.flatten_nil, q43, q58, p1, p2, List.append_nil] at this
    exact this
section
variable {x : Mo} {M : Int}
theorem da_bts (h : Mo.Ok x) {s : X} (hs : bts (s.evS (envE (.int .i64 M :: txE x))) = (if x.y < 0 then [45] else [])) : bts ((catX s daL).evS (envE (.int .i64 M :: txE x))) = Mo.dateL x := by
 obtain ⟨y0, y1, m0, m1, d0, d1, _⟩ := ok_low h
 rw [catX_bts, hs]
 have p1 : bts ((X.at 12).evS (envE (.int .i64 M :: txE x))) = Dc.pad 4 x.y.natAbs := by rw [at_evS rfl, bts_str _ (twoL_lt _ _), pad4 (by omega)]
 have p2 : bts ((X.at 13).evS (envE (.int .i64 M :: txE x))) = Dc.pad 2 x.m.natAbs := by rw [at_evS rfl, bts_str _ (twoL_lt _ _), pad2 (by omega)]
 have p3 : bts ((X.at 14).evS (envE (.int .i64 M :: txE x))) = Dc.pad 2 x.d.natAbs := by rw [at_evS rfl, bts_str _ (twoL_lt _ _), pad2 (by omega)]
 have q45 : bts ((X.str [45]).evS (envE (.int .i64 M :: txE x))) = [45] := lit_evS _ (by decide)
 simp only [daL, List.map_cons, List.map_nil, List.flatten_cons, List.flatten_nil, q45, p1, p2, p3, List.append_nil]
 unfold Mo.dateL
 simp
theorem ti_bts (h : Mo.Ok x) {q : X} {T : List Nat} (hq : bts (q.evS (envE (.int .i64 M :: txE x))) = T) : ((tiL q).map fun p => bts (p.evS (envE (.int .i64 M :: txE x)))).flatten = Dc.pad 2 x.h.natAbs ++ 58 :: (Dc.pad 2 x.i.natAbs ++ 58 :: T) := by
 obtain ⟨_, _, _, _, _, _, h0, h1, i0, i1⟩ := ok_low h
 have p1 : bts ((X.at 15).evS (envE (.int .i64 M :: txE x))) = Dc.pad 2 x.h.natAbs := by rw [at_evS rfl, bts_str _ (twoL_lt _ _), pad2 (by omega)]
 have p2 : bts ((X.at 16).evS (envE (.int .i64 M :: txE x))) = Dc.pad 2 x.i.natAbs := by rw [at_evS rfl, bts_str _ (twoL_lt _ _), pad2 (by omega)]
 have q58 : bts ((X.str [58]).evS (envE (.int .i64 M :: txE x))) = [58] := lit_evS _ (by decide)
 simp only [tiL, List.map_cons, List.map_nil, List.flatten_cons, List.flatten_nil, q58, p1, p2, hq, List.append_nil]
 simp
end
theorem whole_lt2 {c : Nat} {r : List Nat} (hc : c ≠ 46) : (Dc.whole (c :: r)).length < 2 ↔ (c :: r).length < 2 \/ (c :: r).getD 1 0 = 46 := by
 cases r with
 | nil => simp [Dc.whole, hc]
 | cons d r =>
  by_cases hd : d = 46
  ·simp [Dc.whole, hc, hd]
  ·simp [Dc.whole, hc, hd]; omega
def Mo.secQ (x : Mo) : List Nat := Dc.txt x.n (bts x.s) x.S.toNat
theorem sec_txt {x : Mo} (h : Mo.secB x = true) : textR x.n x.s x.S = (str (Mo.secQ x), 0) /\ (∃ c r, Mo.secQ x = c :: r /\ c ≠ 46 /\ c < 256) /\ (∀ c ∈ Mo.secQ x, c < 256) /\ (Mo.secQ x).length <= 200 := by
 obtain ⟨hk, hn, _⟩ := sec_lt h
 have ho := okB_ok hk
 have e : Mo.secQ x = Dc.dotted (bts x.s) x.S.toNat := by unfold Mo.secQ; rw [hn]; rfl
 refine ⟨by unfold textR; rw [if_pos hk]; rfl, ?_, ?_, ?_⟩
 ·obtain ⟨c, r, h1, h2⟩ := Dc.dotted_cons (bts x.s) x.S.toNat ho.dig.1
  have := Dc.dig_iff.1 h2
  exact ⟨c, r, e.trans h1, by omega, by omega⟩
 ·rw [e]
  intro c hc
  have hw := Dc.wide_dig x.S.toNat ho.dig.1
  have hd : ∀ c ∈ Dc.wide (bts x.s) x.S.toNat, c < 256 := fun c hc => by have := Dc.dig_iff.1 (List.all_eq_true.1 hw c hc); omega
  unfold Dc.dotted at hc
  split at hc
  ·exact hd c hc
  ·rw [List.mem_append, List.mem_cons] at hc
   rcases hc with hc | rfl | hc
   ·exact hd c (List.mem_of_mem_take hc)
   ·decide
   ·exact hd c (List.mem_of_mem_drop hc)
 ·rw [e]
  have hl := Dc.wide_length (bts x.s) x.S.toNat
  have h1 := ho.size
  have h2 := ho.high
  rw [bts_length] at hl
  have h3 : (Dc.wide (bts x.s) x.S.toNat).length <= 61 := by rw [hl]; omega
  unfold Dc.dotted
  split
  ·omega
  ·rw [List.length_append, List.length_cons, List.length_take, List.length_drop]; omega
section
variable {x : Mo} {M : Int}
theorem at17 (h : Mo.secB x = true) : (X.at 17).evS (envE (.int .i64 M :: txE x)) = str (Mo.secQ x) := by
 have e : (X.at 17).evS (envE (.int .i64 M :: txE x)) = (textR x.n x.s x.S).1 := rfl
 rw [e, (sec_txt h).1]
theorem pz_bts (h : Mo.secB x = true) : bts (pz.evS (envE (.int .i64 M :: txE x))) = 48 :: Mo.secQ x := by
 have e : pz.evS (envE (.int .i64 M :: txE x)) = Go.Ex.bytes [48] ++ (X.at 17).evS (envE (.int .i64 M :: txE x)) := rfl
 have e2 : bts (Go.Ex.bytes [48]) = [48] := lit_evS (E := fun _ => .bool true) [48] (by decide)
 rw [e, at17 h, str_add, bts_str _ (sec_txt h).2.2.1, e2]; rfl
theorem seT_at (h : Mo.secB x = true) (long : Bool) (hl : long = decide (2 <= (Mo.secQ x).length)) {t : X -> Tree} {R : Value} (ht : ∀ q, bts (q.evS (envE (.int .i64 M :: txE x))) = Mo.secL x -> ((t q).at (envE (.int .i64 M :: txE x))).den L0 (envE (.int .i64 M :: txE x)) = R) : ((seT long t).at (envE (.int .i64 M :: txE x))).den L0 (envE (.int .i64 M :: txE x)) = R := by
 obtain ⟨_, ⟨c, r, e1, e2, _⟩, e4, _⟩ := sec_txt h
 have hw := whole_lt2 (r := r) e2
 rw [<- e1] at hw
 have hp : (Dc.whole (Mo.secQ x)).length < 2 -> bts (pz.evS (envE (.int .i64 M :: txE x))) = Mo.secL x := fun q => by
  rw [pz_bts h]; show _ = if (Dc.whole (Mo.secQ x)).length < 2 then 48 :: Mo.secQ x else Mo.secQ x; rw [if_pos q]
 have hn : ¬ (Dc.whole (Mo.secQ x)).length < 2 -> bts ((X.at 17).evS (envE (.int .i64 M :: txE x))) = Mo.secL x := fun q => by
  rw [at17 h, bts_str _ e4]; show _ = if (Dc.whole (Mo.secQ x)).length < 2 then 48 :: Mo.secQ x else Mo.secQ x; rw [if_neg q]
 cases long with
 | false =>
  have : ¬ 2 <= (Mo.secQ x).length := of_decide_eq_false hl.symm
  exact ht _ (hp (hw.2 (.inl (by omega))))
 | true =>
  have h2 : 2 <= (Mo.secQ x).length := of_decide_eq_true hl.symm
  have ei : (X.idx (.at 17) (.int 1)).evI (envE (.int .i64 M :: txE x)) = ((Mo.secQ x).getD 1 0 : Nat) := by
   have e : (X.idx (.at 17) (.int 1)).evI (envE (.int .i64 M :: txE x)) = ((((X.at 17).evS (envE (.int .i64 M :: txE x))).data.getD 1 0).toNat : Int) := rfl
   rw [e, at17 h, byte_gb]
   unfold gb
   rw [bts_str _ e4]
  have e : (seT true t).at (envE (.int .i64 M :: txE x)) = bif decide ((X.idx (.at 17) (.int 1)).evI (envE (.int .i64 M :: txE x)) = 46) then (t pz).at (envE (.int .i64 M :: txE x)) else (t (.at 17)).at (envE (.int .i64 M :: txE x)) := rfl
  rw [e, ei]
  by_cases hd : (Mo.secQ x).getD 1 0 = 46
  ·rw [decide_eq_true (by omega)]
   exact ht _ (hp (hw.2 (.inr hd)))
  ·rw [decide_eq_false (by omega)]
   refine ht _ (hn fun q => ?_)
   rcases hw.1 q with q | q
   ·omega
   ·exact hd q
theorem seF_ok (h : Mo.secB x = true) (long : Bool) (hl : long = decide (2 <= (Mo.secQ x).length)) : Fx.Ok (envE (.int .i64 M :: txE x)) (seF long) := by
 obtain ⟨_, _, e4, e5⟩ := sec_txt h
 have el : (X.len (.at 17)).evI (envE (.int .i64 M :: txE x)) = ((Mo.secQ x).length : Int) := by
  have e : (X.len (.at 17)).evI (envE (.int .i64 M :: txE x)) = (((X.at 17).evS (envE (.int .i64 M :: txE x))).size : Int) := rfl
  rw [e, at17 h, str_size]
 refine ⟨?_, ?_, ?_, trivial⟩
 ·show decide ((X.len (.at 17)).evI (envE (.int .i64 M :: txE x)) < 2) = !long
  rw [el, hl, <- decide_not]
  exact decide_eq_decide.2 (by omega)
 ·show decide (1 < (X.len (.at 17)).evI (envE (.int .i64 M :: txE x))) = long
  rw [el, hl]
  exact decide_eq_decide.2 (by omega)
 ·show decide (((X.str [48]).evS (envE (.int .i64 M :: txE x))).size + ((X.at 17).evS (envE (.int .i64 M :: txE x))).size <= 9223372036854775807) = true
  rw [at17 h, str_size]
  exact decide_eq_true (by show 1 + _ <= _; omega)
theorem sum_append {E : Nat -> Value} : ∀ {l m : List X}, sumS E (l ++ m) = sumS E l + sumS E m
 | [], m => by simp [sumS]
 | p :: l, m => by rw [List.cons_append, sumS, sumS, sum_append]; omega
theorem zoF_ok {s : X} {l : List X} (h : (s.evS (envE (.int .i64 M :: txE x))).size + sumS (envE (.int .i64 M :: txE x)) l <= 900000) : Fx.Ok (envE (.int .i64 M :: txE x)) (zoF s l) := by
 have s19 : ((X.at 19).evS (envE (.int .i64 M :: txE x))).size = 2 := by rw [at_evS rfl, str_size, twoL_length]
 have s20 : ((X.at 20).evS (envE (.int .i64 M :: txE x))).size = 2 := by rw [at_evS rfl, str_size, twoL_length]
 have lit : ∀ c : Nat, ((X.str [c]).evS (envE (.int .i64 M :: txE x))).size = 1 := fun _ => rfl
 refine Fx_append (fits_ok ?_) (Fx_append (fits_ok ?_) (fits_ok ?_)) <;> rw [sum_append] <;> simp only [sumS, zM, zP, s19, s20, lit] <;> omega
theorem da_sum : sumS (envE (.int .i64 M :: txE x)) daL <= 100 := by
 have s12 : ((X.at 12).evS (envE (.int .i64 M :: txE x))).size = 4 := by rw [at_evS rfl, str_size, twoL_length]
 have s13 : ((X.at 13).evS (envE (.int .i64 M :: txE x))).size = 2 := by rw [at_evS rfl, str_size, twoL_length]
 have s14 : ((X.at 14).evS (envE (.int .i64 M :: txE x))).size = 2 := by rw [at_evS rfl, str_size, twoL_length]
 have lit : ∀ c : Nat, ((X.str [c]).evS (envE (.int .i64 M :: txE x))).size = 1 := fun _ => rfl
 simp only [sumS, daL, s12, s13, s14, lit]; omega
theorem ti_sum {q : X} (hq : (q.evS (envE (.int .i64 M :: txE x))).size <= 1000) : sumS (envE (.int .i64 M :: txE x)) (tiL q) <= 2000 := by
 have s15 : ((X.at 15).evS (envE (.int .i64 M :: txE x))).size = 2 := by rw [at_evS rfl, str_size, twoL_length]
 have s16 : ((X.at 16).evS (envE (.int .i64 M :: txE x))).size = 2 := by rw [at_evS rfl, str_size, twoL_length]
 have lit : ∀ c : Nat, ((X.str [c]).evS (envE (.int .i64 M :: txE x))).size = 1 := fun _ => rfl
 simp only [sumS, tiL, s15, s16, lit]; omega
theorem pz_size (h : Mo.secB x = true) : (pz.evS (envE (.int .i64 M :: txE x))).size <= 1000 /\ ((X.at 17).evS (envE (.int .i64 M :: txE x))).size <= 1000 := by
 have e5 := (sec_txt h).2.2.2
 constructor
 ·rw [<- bts_length, pz_bts h, List.length_cons]; omega
 ·rw [at17 h, str_size]; omega
end
def textV (x : Mo) : Value := .tuple #[.string (Mo.textM x).1, .int .i64 (Mo.textM x).2]
theorem textV_ok {x : Mo} (h : Mo.Ok x) {A : List Nat} (hA : A ++ Mo.zoneL x = Mo.textL x) : Value.tuple #[.string (str (A ++ Mo.zoneL x)), .int .i64 0] = textV x := by
 unfold textV Mo.textM
 rw [hA, if_pos (show Mo.okB x = true from decide_eq_true h)]
section
variable {x : Mo} {M : Int}
theorem neT_at (h : Mo.Ok x) {t : X -> Tree} {R : Value} (ht : ∀ s, bts (s.evS (envE (.int .i64 M :: txE x))) = (if x.y < 0 then [45] else []) -> ((t s).at (envE (.int .i64 M :: txE x))).den L0 (envE (.int .i64 M :: txE x)) = R) : ((neT t).at (envE (.int .i64 M :: txE x))).den L0 (envE (.int .i64 M :: txE x)) = R := by
 have e : (neT t).at (envE (.int .i64 M :: txE x)) = bif decide (x.y < 0) then (t (.str [45])).at (envE (.int .i64 M :: txE x)) else (t (.str [])).at (envE (.int .i64 M :: txE x)) := rfl
 have _ := h
 rw [e]
 by_cases hy : x.y < 0
 ·rw [decide_eq_true hy]; exact ht _ (by rw [if_pos hy]; exact lit_evS _ (by decide))
 ·rw [decide_eq_false hy]; exact ht _ (by rw [if_neg hy]; rfl)
theorem tx1_at (h : Mo.Ok x) (hk : x.k = 1) : (txT1.at (envE (.int .i64 M :: txE x))).den L0 (envE (.int .i64 M :: txE x)) = textV x := by
 refine neT_at h fun s hs => ?_
 rw [zoT_at (x := x) rfl rfl rfl rfl h.2.1 h.2.2.1 (da_bts h hs)]
 refine textV_ok h ?_
 unfold Mo.textL
 rw [if_neg (by omega), if_neg (by omega), if_pos hk]; rfl
theorem tx2_at (h : Mo.Ok x) (hk : x.k = 2) (long : Bool) (hl : long = decide (2 <= (Mo.secQ x).length)) : ((txT2 long).at (envE (.int .i64 M :: txE x))).den L0 (envE (.int .i64 M :: txE x)) = textV x := by
 have hs := (ok_time h (by omega)).1
 refine seT_at hs long hl fun q hq => ?_
 have e : bts ((catX (.str []) (tiL q)).evS (envE (.int .i64 M :: txE x))) = Mo.timeL x := by
  rw [catX_bts, ti_bts h hq]; rfl
 rw [zoT_at (x := x) rfl rfl rfl rfl h.2.1 h.2.2.1 e]
 refine textV_ok h ?_
 unfold Mo.textL
 rw [if_pos hk, if_neg (by omega), if_neg (by omega)]; rfl
theorem tx3_at (h : Mo.Ok x) (hk : x.k = 3) (long : Bool) (hl : long = decide (2 <= (Mo.secQ x).length)) : ((txT3 long).at (envE (.int .i64 M :: txE x))).den L0 (envE (.int .i64 M :: txE x)) = textV x := by
 have hs := (ok_time h (by omega)).1
 refine neT_at h fun s hss => seT_at hs long hl fun q hq => ?_
 have e : bts ((catX s (daL ++ .str [84] :: tiL q)).evS (envE (.int .i64 M :: txE x))) = Mo.dateL x ++ 84 :: Mo.timeL x := by
  rw [pieces (da_bts h hss)]
  have q84 : bts ((X.str [84]).evS (envE (.int .i64 M :: txE x))) = [84] := lit_evS _ (by decide)
  rw [List.map_cons, List.flatten_cons, ti_bts h hq, q84]
  refine bts_str _ ?_
  intro c hc
  have hd := bts_lt ((catX s daL).evS (envE (.int .i64 M :: txE x)))
  rw [da_bts h hss] at hd
  have hp : ∀ n m : Nat, ∀ c ∈ Dc.pad n m, c < 256 := fun n m c hc => by have := Dc.dig_iff.1 (List.all_eq_true.1 (Dc.pad_dig n m) c hc); omega
  have hq2 : ∀ c ∈ Mo.secL x, c < 256 := fun c hc => by rw [<- hq] at hc; exact bts_lt _ c hc
  simp only [List.mem_append, List.mem_cons, List.not_mem_nil, or_false] at hc
  rcases hc with hc | rfl | hc | rfl | hc | rfl | hc
  ·exact hd c hc
  ·decide
  ·exact hp _ _ c hc
  ·decide
  ·exact hp _ _ c hc
  ·decide
  ·exact hq2 c hc
 rw [zoT_at (x := x) rfl rfl rfl rfl h.2.1 h.2.2.1 e]
 refine textV_ok h ?_
 unfold Mo.textL
 rw [if_neg (by omega), if_pos hk, if_neg (by omega)]
 simp
theorem txF1_ok : Fx.Ok (envE (.int .i64 M :: txE x)) txF1 := by
 have := da_sum (x := x) (M := M)
 exact Fx_append (zoF_ok (by show 1 + _ <= _; omega)) (zoF_ok (by show 0 + _ <= _; omega))
theorem txF2_ok (h : Mo.secB x = true) (long : Bool) (hl : long = decide (2 <= (Mo.secQ x).length)) : Fx.Ok (envE (.int .i64 M :: txE x)) (txF2 long) := by
 obtain ⟨p1, p2⟩ := pz_size (M := M) h
 have t1 := ti_sum p1
 have t2 := ti_sum p2
 exact Fx_append (seF_ok h long hl) (Fx_append (zoF_ok (by show 0 + _ <= _; omega)) (zoF_ok (by show 0 + _ <= _; omega)))
theorem txF3_ok (h : Mo.secB x = true) (long : Bool) (hl : long = decide (2 <= (Mo.secQ x).length)) : Fx.Ok (envE (.int .i64 M :: txE x)) (txF3 long) := by
 obtain ⟨p1, p2⟩ := pz_size (M := M) h
 have t1 := ti_sum p1
 have t2 := ti_sum p2
 have t3 := da_sum (x := x) (M := M)
 have k : ∀ q, sumS (envE (.int .i64 M :: txE x)) (tiL q) <= 2000 -> sumS (envE (.int .i64 M :: txE x)) (daL ++ .str [84] :: tiL q) <= 3000 := fun q hq => by
  rw [sum_append]
  show _ + (1 + _) <= _
  omega
 have k1 := k _ t1
 have k2 := k _ t2
 exact Fx_append (seF_ok h long hl) (Fx_append (Fx_append (zoF_ok (by show 1 + _ <= _; omega)) (zoF_ok (by show 1 + _ <= _; omega))) (Fx_append (zoF_ok (by show 0 + _ <= _; omega)) (zoF_ok (by show 0 + _ <= _; omega))))
end
theorem rtext_m (x : Mo) (hx : x.s.size <= 1000000) (w : World) (M : Int) (hV : Vars M w) : Calls Tryz.prog 33 #[x.val] w fun e w' => e = .returned (textV x) /\ Below w.heap.size w w' := by
 cases hb : Mo.okB x with
 | false =>
  have hc : AllX Tryz.prog (envE (.int .i64 M :: txE x)) (Vars M) [⟨40, [moV 1], [], it 2⟩] := ⟨⟨rfl, fk, fun _ L w hV => by
   have := rcheckm_is x hx w M hV
   rw [hb] at this
   exact this⟩, trivial⟩
  have h := tree_run (env := txE x) rrun_tx0 hc rfl trivial rfl hV
  have e : textV x = .tuple #[.string ⟨#[]⟩, .int .i64 2] := by unfold textV Mo.textM; rw [hb]; rfl
  rw [e]
  exact h
 | true =>
  have ho := okB_Ok hb
  rcases ho.1 with hk | hk | hk
  ·have h := tree_run (env := txE x) rrun_tx1 (rtx_ok x 1 hk ho hx M) rfl txF1_ok rfl hV
   rw [tx1_at ho hk] at h
   obtain ⟨k, y, m, d, hh, i, n, s, S, z, o⟩ := x
   simp only at hk; subst hk
   exact h
  ·have hs := (ok_time ho (by omega)).1
   cases hl : decide (2 <= (Mo.secQ x).length) with
   | true =>
    have h := tree_run (env := txE x) rrun_tx2a (rtx_ok x 2 hk ho hx M) rfl (txF2_ok hs true hl.symm) rfl hV
    rw [tx2_at ho hk true hl.symm] at h
    obtain ⟨k, y, m, d, hh, i, n, s, S, z, o⟩ := x
    simp only at hk; subst hk
    exact h
   | false =>
    have h := tree_run (env := txE x) rrun_tx2b (rtx_ok x 2 hk ho hx M) rfl (txF2_ok hs false hl.symm) rfl hV
    rw [tx2_at ho hk false hl.symm] at h
    obtain ⟨k, y, m, d, hh, i, n, s, S, z, o⟩ := x
    simp only at hk; subst hk
    exact h
  ·have hs := (ok_time ho (by omega)).1
   cases hl : decide (2 <= (Mo.secQ x).length) with
   | true =>
    have h := tree_run (env := txE x) rrun_tx3a (rtx_ok x 3 hk ho hx M) rfl (txF3_ok hs true hl.symm) rfl hV
    rw [tx3_at ho hk true hl.symm] at h
    obtain ⟨k, y, m, d, hh, i, n, s, S, z, o⟩ := x
    simp only at hk; subst hk
    exact h
   | false =>
    have h := tree_run (env := txE x) rrun_tx3b (rtx_ok x 3 hk ho hx M) rfl (txF3_ok hs false hl.symm) rfl hV
    rw [tx3_at ho hk false hl.symm] at h
    obtain ⟨k, y, m, d, hh, i, n, s, S, z, o⟩ := x
    simp only at hk; subst hk
    exact h
end Go.Proofs.YthoojcdjjecogaaGreatDoor
