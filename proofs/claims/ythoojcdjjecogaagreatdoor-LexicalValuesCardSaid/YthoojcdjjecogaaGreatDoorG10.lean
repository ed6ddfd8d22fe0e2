/-
  Part 10 of the proof: what functions return, and plain facts (Mdate Mspec Mvars Rdtext Pparse Pdigits Pscaled Rsum Radd Rcmp Rdiv Psum Padd). Conditions: each theorem names its own.
-/
import Derived.Test.YthoojcdjjecogaaGreatDoorG04
import Derived.Test.YthoojcdjjecogaaGreatDoorG06
import Derived.Test.YthoojcdjjecogaaGreatDoorG03
import Derived.Test.YthoojcdjjecogaaGreatDoorG07
import Derived.Test.YthoojcdjjecogaaGreatDoorG08
import Derived.Test.YthoojcdjjecogaaGreatDoorG09
set_option maxRecDepth 1000000
set_option maxHeartbeats 16000000
namespace Go.Proofs.YthoojcdjjecogaaGreatDoor.Mo

def lg (y : Int) : Int := if (y % 4 = 0 /\ y % 100 ≠ 0) \/ y % 400 = 0 then 1 else 0
theorem lg_01 (y : Int) : lg y = 0 \/ lg y = 1 := by unfold lg; split <;> simp
def dim (y m : Int) : Int := if m = 2 then 28 + lg y else if m = 4 \/ m = 6 \/ m = 9 \/ m = 11 then 30 else 31
theorem dim_bd (y m : Int) : 28 <= dim y m /\ dim y m <= 31 := by
 have := lg_01 y
 unfold dim; split
 ·omega
 ·split <;> omega
def counted (y : Int) : Int := if y < 0 then y + 1 else y
end Go.Proofs.YthoojcdjjecogaaGreatDoor.Mo
namespace Go.Proofs.YthoojcdjjecogaaGreatDoor
open Go Go.RowKit

structure Mo where
 k : Int
 y : Int
 m : Int
 d : Int
 h : Int
 i : Int
 n : Bool
 s : ByteArray
 S : Int
 z : Bool
 o : Int
namespace Mo
def dateOk (x : Mo) : Prop := x.y ≠ 0 /\ -9999 <= x.y /\ x.y <= 9999 /\ 1 <= x.m /\ x.m <= 12 /\ 1 <= x.d /\ x.d <= dim (counted x.y) x.m
def sixty : ByteArray := ⟨#[54, 48]⟩
def secB (x : Mo) : Bool := okB x.n x.s x.S && (!x.n && decide ((cmpR x.n x.s x.S false sixty 0).1 < 0))
def timeOk (x : Mo) : Prop := secB x = true /\ 0 <= x.h /\ x.h <= 23 /\ 0 <= x.i /\ x.i <= 59
def noDate (x : Mo) : Prop := x.y = 0 /\ x.m = 0 /\ x.d = 0
def noTime (x : Mo) : Prop := x.h = 0 /\ x.i = 0 /\ x.n = false /\ x.s = ⟨#[]⟩ /\ x.S = 0
def Ok (x : Mo) : Prop := (x.k = 1 \/ x.k = 2 \/ x.k = 3) /\ -840 <= x.o /\ x.o <= 840 /\ (x.z = false -> x.o = 0) /\ (if x.k = 2 then noDate x else dateOk x) /\ (if x.k = 1 then noTime x else timeOk x)
instance (x : Mo) : Decidable (Ok x) := by unfold Ok dateOk timeOk noDate noTime; infer_instance
def okB (x : Mo) : Bool := decide (Ok x)
end Mo
end Go.Proofs.YthoojcdjjecogaaGreatDoor
namespace Go.Proofs.YthoojcdjjecogaaGreatDoor
open Go Go.RowKit Go.Ex

def monthLens : List Value := [31, 28, 31, 30, 31, 30, 31, 31, 30, 31, 30, 31].map fun z => Value.int .i64 z
def lenCells : List V := [31, 28, 31, 30, 31, 30, 31, 31, 30, 31, 30, 31].map fun z => .int .i64 z
def powCells : List V := [1, 10, 100, 1000, 10000, 100000, 1000000, 10000000, 100000000, 1000000000, 10000000000, 100000000000, 1000000000000, 10000000000000, 100000000000000, 1000000000000000, 10000000000000000, 100000000000000000, 1000000000000000000, 10000000000000000000].map fun z => .int .u64 z
def rngInts : List Int := [9, 9, 10, 10, 13, 13, 32, 55295, 57344, 65533, 65536, 1114111]
def rngVals : List Value := rngInts.map fun z => Value.int .i32 z
def rngVs : List V := rngInts.map fun z => .int .i32 z
def VarAt (g : Nat) (cells : List Value) (t : TypeId) (w : World) : Prop := ∃ lo hi, w.heap[g]? = some (.cells cells.toArray t (lo, hi)) /\ (hi <= lo \/ cells.length <= lo)
theorem VarAt.next {g : Nat} {cells : List Value} {t : TypeId} {w w' : World} (h : VarAt g cells t w) (hb : Below w.heap.size w w') : VarAt g cells t w' := by
 obtain ⟨lo, hi, h1, h2⟩ := h
 exact ⟨lo, hi, (hb.block _ (Array.getElem?_eq_some_iff.1 h1).1).trans h1, h2⟩
theorem VarAt.lt {g : Nat} {cells : List Value} {t : TypeId} {w : World} (h : VarAt g cells t w) : g < w.heap.size := by
 obtain ⟨lo, hi, h1, h2⟩ := h
 exact (Array.getElem?_eq_some_iff.1 h1).1
structure Vars (m : Int) (w : World) : Prop where
 row0 : VarAt 2 [.int .i64 m] 3 w
 row1 : VarAt 5 (Lib.pow10Tab.map fun z => Value.int .u64 z) 200 w
 row2 : VarAt 0 monthLens 144 w
 row3 : VarAt 1 rngVals 165 w
theorem Vars.next {m : Int} {w w' : World} (h : Vars m w) (hb : Below w.heap.size w w') : Vars m w' := ⟨h.row0.next hb, h.row1.next hb, h.row2.next hb, h.row3.next hb⟩
def row0 : Row := ⟨[.xi .i64 (.at 0)], 3, 1, false, false, none⟩
def row1 : Row := ⟨powCells, 200, 1, false, false, none⟩
def row2 : Row := ⟨lenCells, 144, 1, false, false, none⟩
def row3 : Row := ⟨rngVs, 165, 1, false, false, none⟩
noncomputable def h0 : H := ⟨((((T.e : T Row).put 2 (some row0)).put 5 (some row1)).put 0 (some row2)).put 1 (some row3), nG, 1000000⟩
noncomputable def keptR (h : H) (g : Nat) (q : Row) : Bool := oB (h.rows.get g) fun r => bB (V.eqbs r.cells q.cells) (bB (!r.opn) (Nat.beq r.elem q.elem))
noncomputable def gd (h : H) : Bool := bB (keptR h 2 row0) (bB (keptR h 5 row1) (bB (keptR h 0 row2) (keptR h 1 row3)))
theorem row_at {E : Nat -> Value} {B : World} {L : Ex.Loc} {h : H} {w : World} (hs : Sat E nG B L h w) {g : Nat} (hg : g < nG) {q : Row} (hh : keptR h g q = true) : VarAt g (V.dens L E q.cells) q.elem w := by
 obtain ⟨r, hr, hc⟩ := oB_some hh
 obtain ⟨h1, h2⟩ := bB_true hc
 obtain ⟨h2, h3⟩ := bB_true h2
 obtain ⟨rest, lo, hi, hw, hl, hrest, _⟩ := hs.rows g r hr
 have e : rest = [] := hrest (by simpa using h2)
 rw [e] at hw hl
 rw [hs.glob g hg, List.append_nil, eqbs_eq _ _ h1, Nat.eq_of_beq_eq_true h3] at hw
 rw [eqbs_eq _ _ h1] at hl
 exact ⟨lo, hi, hw, by rw [dens_length]; exact hl⟩
theorem Vars.pow {m : Int} {w : World} (h : Vars m w) : Pow w := by
 obtain ⟨lo', hi', h1, _⟩ := h.row1
 unfold Pow Lib.TabIs World.var?
 rw [show Tryz.prog.globalNamed "internal/strconv.uint64pow10" = some 5 by kernel_rfl, Option.bind_some, h1]
theorem row0_dens {E : Nat -> Value} {L : Ex.Loc} {m : Int} (hE : E 0 = .int .i64 m) : V.dens L E row0.cells = [.int .i64 m] := by simp [row0, V.dens, V.den, X.evI, hE]
theorem gd_good {E : Nat -> Value} {B : World} {L : Ex.Loc} {h : H} {w : World} {m : Int} (hE : E 0 = .int .i64 m) (hs : Sat E nG B L h w) (hg : gd h = true) : Vars m w := by
 obtain ⟨h1, h2⟩ := bB_true hg
 obtain ⟨h2, h3⟩ := bB_true h2
 obtain ⟨h3, h4⟩ := bB_true h3
 have k1 := row_at hs (by decide) h1
 rw [row0_dens hE] at k1
 exact ⟨k1, row_at hs (by decide) h2, row_at hs (by decide) h3, row_at hs (by decide) h4⟩
theorem row_sat {E : Nat -> Value} {L : Ex.Loc} {B : World} {n b : Nat} {r : Row} {w : World} (hL : L.ρ b = b) (hb : b < n) (hB : b < B.heap.size) (hopn : r.opn = false) (hown : r.own = false) (hok : V.oks n r.cells = true) (hone : r.cells.all V.one = true) (hw : VarAt b (V.dens L E r.cells) r.elem w) : RowAt E B L n b r w := by
 obtain ⟨lo, hi, hw, hl⟩ := hw
 rw [dens_length] at hl
 refine ⟨[], lo, hi, ?_, hl, fun _ => rfl, fun h => ?_, hok, hone, hb, ⟨fun h => ?_, fun h => ?_⟩⟩
 ·rw [hL, List.append_nil]; exact hw
 ·rw [hopn] at h; cases h
 ·rw [hown] at h; cases h
 ·rw [hL] at h; omega
theorem start_sat {E : Nat -> Value} {w : World} {m : Int} (hE : E 0 = .int .i64 m) (hV : Vars m w) : Sat E nG w L0 h0 w := by
 refine ⟨fun b r hb => ?_, fun b c r s _ _ h => .inl h, .refl _, fun _ _ => rfl, Nat.le_refl _⟩
 unfold h0 at hb
 simp only [T.get_put, T.get_e] at hb
 split at hb
 ·rename_i e
  cases hb
  subst e
  exact row_sat rfl (by decide) hV.row3.lt rfl rfl rfl rfl hV.row3
 ·split at hb
  ·rename_i e
   cases hb
   subst e
   exact row_sat rfl (by decide) hV.row2.lt rfl rfl rfl rfl hV.row2
  ·split at hb
   ·rename_i e
    cases hb
    subst e
    exact row_sat rfl (by decide) hV.row1.lt rfl rfl rfl rfl hV.row1
   ·split at hb
    ·rename_i e
     cases hb
     subst e
     refine row_sat rfl (by decide) hV.row0.lt rfl rfl rfl rfl ?_
     rw [row0_dens hE]
     exact hV.row0
    ·cases hb
def moKinds : List Kd := [.i .i64, .i .i64, .i .i64, .i .i64, .i .i64, .i .i64, .b, .s, .i .i64, .b, .i .i64]
def moT : EqTab := [(26, moKinds), (24, deKinds)]
theorem mo_sorted {l : List Value} (h : sorted moKinds l) : ∃ k y m d hh i n s S z o, l = [.int .i64 k, .int .i64 y, .int .i64 m, .int .i64 d, .int .i64 hh, .int .i64 i, .bool n, .string s, .int .i64 S, .bool z, .int .i64 o] := by
 obtain ⟨k, l0, e0, g0⟩ := sorted_i h
 obtain ⟨y, l1, e1, g1⟩ := sorted_i g0
 obtain ⟨m, l2, e2, g2⟩ := sorted_i g1
 obtain ⟨d, l3, e3, g3⟩ := sorted_i g2
 obtain ⟨hh, l4, e4, g4⟩ := sorted_i g3
 obtain ⟨i, l5, e5, g5⟩ := sorted_i g4
 obtain ⟨n, l6, e6, g6⟩ := sorted_b g5
 obtain ⟨s, l7, e7, g7⟩ := sorted_s g6
 obtain ⟨S, l8, e8, g8⟩ := sorted_i g7
 obtain ⟨z, l9, e9, g9⟩ := sorted_b g8
 obtain ⟨o, l10, e10, g10⟩ := sorted_i g9
 exact ⟨_, _, _, _, _, _, _, _, _, _, _, by rw [e0, e1, e2, e3, e4, e5, e6, e7, e8, e9, e10, sorted_n g10]⟩
theorem moT_ok : EqS Tryz.prog moT := by
 refine ⟨fun xs ys h1 h2 w => ⟨Tryz.eqGuardType26, ?_⟩, fun xs ys h1 h2 w => ⟨Tryz.eqGuardType24, ?_⟩, trivial⟩
 ·obtain ⟨k, y, m, d, hh, i, n, s, S, z, o, rfl⟩ := mo_sorted h1
  obtain ⟨k', y', m', d', hh', i', n', s', S', z', o', rfl⟩ := mo_sorted h2
  simp only [valsEq, <- toList_dec]
  simp [go_sem, Op.equal, Op.maxDepth]
  simp only [if_ok, Bool.and_true, beq_dec, lbeq_dec]
 ·obtain ⟨n, s, S, rfl⟩ := de_sorted h1
  obtain ⟨n', s', S', rfl⟩ := de_sorted h2
  simp only [valsEq, <- toList_dec]
  simp [go_sem, Op.equal, Op.maxDepth]
  simp only [if_ok, Bool.and_true, beq_dec, lbeq_dec]
theorem tree_run {calls : List CallX} {env : List Value} {m : Int} {n : Nat} {f : FuncId} {args : List V} {F : Fx} {t : Tree} {w : World} (hr : chk (runTr Tryz.prog nG (fun _ => none) gd moT calls n f args h0) t F = true) (hc : AllX Tryz.prog (envE (.int .i64 m :: env)) (Vars m) calls) (hone : env.all Value.oneCell' = true) (hF : F.Ok (envE (.int .i64 m :: env)))
  (hargs : V.oks nG args = true) (hV : Vars m w) : Calls Tryz.prog f (V.dens L0 (envE (.int .i64 m :: env)) args).toArray w fun e w' => e = .returned ((t.at (envE (.int .i64 m :: env))).den L0 (envE (.int .i64 m :: env))) /\ Below w.heap.size w w' :=
 tree_law (envE_one (by rw [List.all_cons, hone]; rfl)) (by kernel_rfl) noExt hF moT_ok hc (fun L h w' hs hg => gd_good rfl hs hg) hr (start_sat rfl hV) hargs
theorem tree_rv {calls : List CallX} {env : List Value} {m : Int} {n : Nat} {f : FuncId} {args : List V} {F : Fx} {t : Tree} {av : Array Value} {v : Value} {w : World} (hr : chk (runTr Tryz.prog nG (fun _ => none) gd moT calls n f args h0) t F = true) (hc : AllX Tryz.prog (envE (.int .i64 m :: env)) (Vars m) calls) (hone : env.all Value.oneCell' = true) (hF : F.Ok (envE (.int .i64 m :: env)))
  (hargs : V.oks nG args = true) (hav : (V.dens L0 (envE (.int .i64 m :: env)) args).toArray = av) (hv : (t.at (envE (.int .i64 m :: env))).den L0 (envE (.int .i64 m :: env)) = v) (hV : Vars m w) : Calls Tryz.prog f av w fun e w' => e = .returned v /\ Below w.heap.size w w' := by
 rw [<- hv, <- hav]; exact tree_run hr hc hone hF hargs hV
def VK (m : Int) (w w' : World) : Prop := Vars m w' /\ Keeps w w'
theorem VK.next {m : Int} {w w' w'' : World} (h : VK m w w') (hb : Below w'.heap.size w' w'') : VK m w w'' := ⟨h.1.next hb, h.2.below hb⟩
theorem okX_mono {P : Program} {E : Nat -> Value} {A B : World -> Prop} (hAB : ∀ w, B w -> A w) {c : CallX} (h : CallX.Ok P E A c) : CallX.Ok P E B c := ⟨h.1, h.2.1, fun hp L w hw => h.2.2 hp L w (hAB w hw)⟩
theorem okX_vk {P : Program} {E : Nat -> Value} {m : Int} {w : World} {c : CallX} (h : CallX.Ok P E (Vars m) c) : CallX.Ok P E (VK m w) c := okX_mono (fun _ h => h.1) h
theorem tree_rk {calls : List CallX} {env : List Value} {m : Int} {n : Nat} {f : FuncId} {args : List V} {F : Fx} {t : Tree} {av : Array Value} {v : Value} {w : World} (hr : chk (runTr Tryz.prog nG (fun _ => none) gd moT calls n f args h0) t F = true) (hc : AllX Tryz.prog (envE (.int .i64 m :: env)) (VK m w) calls) (hone : env.all Value.oneCell' = true) (hF : F.Ok (envE (.int .i64 m :: env)))
  (hargs : V.oks nG args = true) (hav : (V.dens L0 (envE (.int .i64 m :: env)) args).toArray = av) (hv : (t.at (envE (.int .i64 m :: env))).den L0 (envE (.int .i64 m :: env)) = v) (hV : Vars m w) : Calls Tryz.prog f av w fun e w' => e = .returned v /\ Below w.heap.size w w' := by
 rw [<- hv, <- hav]
 exact tree_law (envE_one (by rw [List.all_cons, hone]; rfl)) (by kernel_rfl) noExt hF moT_ok hc (fun L h w' hs hg => ⟨gd_good rfl hs hg, hs.base⟩) hr (start_sat rfl hV) hargs
def moV (b : Nat) : V := .agg [xi b, xi (b + 1), xi (b + 2), xi (b + 3), xi (b + 4), xi (b + 5), xb (b + 6), xs (b + 7), xi (b + 8), xb (b + 9), xi (b + 10)]
def moK (k : Int) (b : Nat) : V := .agg [it k, xi (b + 1), xi (b + 2), xi (b + 3), xi (b + 4), xi (b + 5), xb (b + 6), xs (b + 7), xi (b + 8), xb (b + 9), xi (b + 10)]
def Mo.list (x : Mo) : List Value := [.int .i64 x.k, .int .i64 x.y, .int .i64 x.m, .int .i64 x.d, .int .i64 x.h, .int .i64 x.i, .bool x.n, .string x.s, .int .i64 x.S, .bool x.z, .int .i64 x.o]
def Mo.val (x : Mo) : Value := .agg x.list.toArray
end Go.Proofs.YthoojcdjjecogaaGreatDoor
namespace Go.Proofs.YthoojcdjjecogaaGreatDoor
open Go Go.RowKit
namespace Dc
theorem whole_part (l : List Nat) : (l = whole l /\ part l = []) \/ l = whole l ++ 46 :: part l := by
 unfold whole part
 have h := List.takeWhile_append_dropWhile (p := fun c => decide (c ≠ 46)) (l := l)
 cases hd : l.dropWhile (fun c => decide (c ≠ 46)) with
 | nil => rw [hd, List.append_nil] at h; exact .inl ⟨h.symm, rfl⟩
 | cons c r =>
  have hc : c = 46 := by
   have := List.head?_dropWhile_not (fun c => decide (c ≠ 46)) l
   rw [hd] at this
   simpa using this
  rw [hd, hc] at h
  exact .inr h.symm
theorem takeWhile_all {p : Nat -> Bool} : ∀ {l : List Nat} {c : Nat}, c ∈ l.takeWhile p -> p c = true
 | [], _, h => by simp at h
 | x :: l, c, h => by
  rw [List.takeWhile_cons] at h
  split at h
  ·rename_i hp
   rcases List.mem_cons.1 h with rfl | h
   ·exact hp
   ·exact takeWhile_all h
  ·cases h
theorem whole_part_length (l : List Nat) : (whole l ++ part l).length <= l.length := by
 rcases whole_part l with ⟨h1, h2⟩ | h
 ·rw [<- h1, h2, List.append_nil]; exact Nat.le_refl _
 ·have := congrArg List.length h
  rw [List.length_append, List.length_cons] at this
  rw [List.length_append]; omega
theorem whole_length (l : List Nat) : (whole l).length <= l.length := by
 have := whole_part_length l
 rw [List.length_append] at this; omega
theorem whole_at {l : List Nat} (h : (whole l).length < l.length) : l.getD (whole l).length 0 = 46 /\ l.take (whole l).length = whole l /\ l.drop ((whole l).length + 1) = part l /\ l.length = (whole l).length + 1 + (part l).length := by
 rcases whole_part l with ⟨h1, _⟩ | h1
 ·rw [<- h1] at h; omega
 ·generalize whole l = W at *
  generalize part l = Q at *
  subst h1
  refine ⟨?_, ?_, ?_, ?_⟩
  ·rw [List.getD_eq_getElem?_getD, List.getElem?_append_right (Nat.le_refl _)]; simp
  ·rw [List.take_left']; rfl
  ·rw [<- List.drop_drop, List.drop_left']; rfl; rfl
  ·rw [List.length_append, List.length_cons]; omega
theorem whole_all {l : List Nat} (h : (whole l).length = l.length) : whole l = l /\ part l = [] := by
 rcases whole_part l with ⟨h1, h2⟩ | h1
 ·exact ⟨h1.symm, h2⟩
 ·have := congrArg List.length h1
  rw [List.length_append, List.length_cons] at this; omega
end Dc
def onlyL (l : List Nat) : Bool := l.all Dc.dig && decide (l.length ≠ 0)
theorem onlyB_L (s : ByteArray) : onlyB s = onlyL (bts s) := by unfold onlyB onlyL; rw [bts_length]
def allL (m : List Nat) : List Nat := Dc.whole m ++ Dc.part m
theorem readR_yes {l m : List Nat} {neg : Bool} (hu : Dc.unsign l = (neg, m)) (ho : onlyL (allL m) = true) : readR l = resOf (Dc.can neg (Dc.val (allL m)) (Dc.part m).length) := by
 unfold onlyL at ho
 rw [Bool.and_eq_true, decide_eq_true_eq] at ho
 unfold readR Dc.readD
 rw [hu]
 simp only
 rw [if_pos ⟨ho.1, fun he => ho.2 (by unfold allL; rw [he]; rfl)⟩]
 rfl
theorem readR_no {l m : List Nat} {neg : Bool} (hu : Dc.unsign l = (neg, m)) (ho : onlyL (allL m) = false) : readR l = formR := by
 unfold readR Dc.readD
 rw [hu]
 simp only
 rw [if_neg]
 rintro ⟨h1, h2⟩
 have : onlyL (allL m) = true := by
  unfold onlyL
  rw [Bool.and_eq_true, decide_eq_true_eq]
  exact ⟨h1, fun he => h2 (List.length_eq_zero_iff.1 he)⟩
 rw [this] at ho; cases ho
theorem unsign_minus {s : ByteArray} (h : (bts s).head? = some 45) : Dc.unsign (bts s) = (true, bts (s.extract 1 s.size)) := by
 rw [bts_tail]
 cases hb : bts s with
 | nil => rw [hb] at h; cases h
 | cons c r => rw [hb] at h; obtain rfl : c = 45 := Option.some.inj h; rfl
theorem unsign_plus {s : ByteArray} (h : (bts s).head? = some 43) : Dc.unsign (bts s) = (false, bts (s.extract 1 s.size)) := by
 rw [bts_tail]
 cases hb : bts s with
 | nil => rw [hb] at h; cases h
 | cons c r => rw [hb] at h; obtain rfl : c = 43 := Option.some.inj h; rfl
theorem unsign_none {s : ByteArray} (h1 : (bts s).head? ≠ some 45) (h2 : (bts s).head? ≠ some 43) : Dc.unsign (bts s) = (false, bts s) := by
 cases hb : bts s with
 | nil => rfl
 | cons c r =>
  rw [hb] at h1 h2
  show (if c = 45 then (true, r) else if c = 43 then (false, r) else (false, c :: r)) = _
  rw [if_neg (fun e => h1 (by rw [e]; rfl)), if_neg (fun e => h2 (by rw [e]; rfl))]
end Go.Proofs.YthoojcdjjecogaaGreatDoor
namespace Go.Proofs.YthoojcdjjecogaaGreatDoor
open Go Go.RowKit

theorem parseU (M : Nat) (hM : M < 18446744073709551615) : ∀ (l : List UInt8) (acc : Nat), (l.map UInt8.toNat).all Dc.dig = true -> acc * 10 ^ l.length + Dc.val (l.map UInt8.toNat) <= M -> Lib.parseUintM M acc l = .ok (acc * 10 ^ l.length + Dc.val (l.map UInt8.toNat))
 | [], acc, _, _ => by simp [Lib.parseUintM, Dc.val]
 | c :: r, acc, hd, h => by
  rw [List.map_cons, List.all_cons, Bool.and_eq_true] at hd
  have hc := Dc.dig_iff.1 hd.1
  rw [List.map_cons, Dc.val_cons, List.length_map, List.length_cons, Nat.pow_succ] at h
  have e : acc * (10 ^ r.length * 10) + ((c.toNat - 48) * 10 ^ r.length + Dc.val (r.map UInt8.toNat)) = (acc * 10 + (c.toNat - 48)) * 10 ^ r.length + Dc.val (r.map UInt8.toNat) := by
   rw [Nat.add_mul, Nat.mul_assoc, Nat.mul_comm 10, Nat.add_assoc]
  rw [e] at h
  have hp := Dc.pow10_pos r.length
  have h1 : acc * 10 + (c.toNat - 48) <= M := by
   have : (acc * 10 + (c.toNat - 48)) * 1 <= (acc * 10 + (c.toNat - 48)) * 10 ^ r.length := Nat.mul_le_mul_left _ hp
   omega
  rw [List.map_cons, Dc.val_cons, List.length_map, List.length_cons, Nat.pow_succ, e, Lib.parseUintM, if_pos hc, if_neg (by omega), if_neg (by omega)]
  exact parseU M hM r _ hd.2 h
theorem pu_any (s : ByteArray) (h1 : 1 <= s.size) (h2 : s.size <= 9) (hd : (bts s).all Dc.dig = true) (w : World) : Calls Tryz.prog 129 #[.string s, .int .i64 10, .int .i64 32] w fun e w' => e = .returned (.tuple #[.int .u64 (Dc.val (bts s) : Nat), .nilIface]) /\ Below w.heap.size w w' := by
 have hv := Dc.val_lt hd
 rw [bts_length] at hv
 have hp : 10 ^ s.size <= 10 ^ 9 := Nat.pow_le_pow_right (by decide) h2
 have hne : s.data.toList ≠ [] := fun h => by
  have : s.data.toList.length = s.size := rfl
  rw [h] at this; simp at this; omega
 have h := parseU (2 ^ 32 - 1) (by decide) s.data.toList 0 hd (by rw [Nat.zero_mul, Nat.zero_add]; show Dc.val (bts s) <= _; omega)
 rw [Nat.zero_mul, Nat.zero_add] at h
 refine (Tryz.strconv_ParseUint_10_at32_ok s (by omega) (Dc.val (bts s)) (by unfold Lib.parseUintB; rw [if_neg hne]; exact h) w).mono ?_
 rintro e w' ⟨rfl, hw⟩
 refine ⟨rfl, ?_⟩
 rcases hw with rfl | rfl
 ·exact Below.refl _ _
 ·exact ⟨rfl, rfl, rfl, by rw [Lib.bytesWorld_size]; omega, fun k hk => Lib.bytesWorld_at_old w 5 s k hk⟩
theorem parse_step {s S : ByteArray} {m f : Nat} (hS : bts S = (bts s).take m) (hm : m <= s.size) (hf : f = m - 9) : Dc.val ((bts s).take m) = Dc.val ((bts S).drop f) + 10 ^ (m - f) * Dc.val ((bts s).take f) /\ (bts S).take f = (bts s).take f := by
 have e : (bts S).take f = (bts s).take f := by rw [hS, List.take_take]; congr 1; omega
 refine ⟨?_, e⟩
 rw [<- e, <- hS]
 have h := Dc.val_append ((bts S).take f) ((bts S).drop f)
 rw [List.take_append_drop] at h
 rw [h, Nat.add_comm, Nat.mul_comm, List.length_drop, hS, List.length_take, bts_length, Nat.min_eq_left hm]

theorem parse_sum {m f k V v : Nat} {l : List Nat} (hf : f = m - 9) : V + 1000000000 ^ k * (v + 10 ^ (m - f) * Dc.val (l.take f)) = V + 1000000000 ^ k * v + 1000000000 ^ (k + 1) * Dc.val (l.take f) := by
 rcases Nat.lt_or_ge m 9 with h9 | h9
 ·have h0 : f = 0 := by omega
  rw [h0, List.take_zero, Dc.val_nil, Nat.mul_zero, Nat.mul_zero]; rfl
 ·have e : m - f = 9 := by omega
  have e2 : (10 : Nat) ^ (m - f) = 1000000000 := by rw [e]
  rw [e2, Nat.mul_add, Nat.pow_succ, Nat.add_assoc, Nat.mul_assoc]

theorem pparse_any (s : ByteArray) (hs : s.size <= 216) (hd : (bts s).all Dc.dig = true) (w : World) : Calls Tryz.prog 111 #[.string s] w fun e w' => (∃ O : List Nat, e = .returned (.agg (numV O)) /\ Num O /\ Dc.valB O = Dc.val (bts s)) /\ Below w.heap.size w w' := by
 have HD : Hid _ := Lib.hid hd
 have R1 : Hid (Row24 ((w.alloc (.cells (numV (List.replicate 24 0)) 117)).alloc (.cells (numV (List.replicate 24 0)) 117)) w.heap.size (List.replicate 24 0)) := Lib.hid ((Row24.new w _ rfl).old _)
 have R2 : Hid (Row24 ((w.alloc (.cells (numV (List.replicate 24 0)) 117)).alloc (.cells (numV (List.replicate 24 0)) 117)) (w.heap.size + 1) (List.replicate 24 0)) := Lib.hid (by
  have := Row24.new (w.alloc (.cells (numV (List.replicate 24 0)) 117)) (List.replicate 24 0) rfl
  rwa [show (w.alloc (.cells (numV (List.replicate 24 0)) 117)).heap.size = w.heap.size + 1 from Array.size_push _] at this)
 have B0 : Hid (Below w.heap.size w ((w.alloc (.cells (numV (List.replicate 24 0)) 117)).alloc (.cells (numV (List.replicate 24 0)) 117))) := Lib.hid (((Below.refl _ w).alloc (Nat.le_refl _) _).alloc (((Below.refl _ w).alloc (Nat.le_refl _) _).size) _)
 clear hd
 go_enter Tryz.func111, Tryz.ntmps111
 go_wp2
 go_loopw [0, 4] (fun t i wr => ∃ (k m : Nat) (S : ByteArray) (O : List Nat), k <= 24 /\ i = .int .i64 (k : Int) /\ t = .string S /\ m <= s.size /\ Hid (m = 0 \/ m + 9 * k = s.size) /\ Hid (bts S = (bts s).take m) /\ S.size <= 216 /\ Hid (S.size = m) /\ Hid (∀ d ∈ O, d < 1000000000) /\ Hid (Dc.val (bts s) = Dc.valB O + 1000000000 ^ k * Dc.val ((bts s).take m)) /\ Hid (O.drop k = (List.replicate 24 0).drop k) /\ Row24 wr w.heap.size (List.replicate 24 0) /\ Row24 wr (w.heap.size + 1) O /\ Below w.heap.size w wr) (fun t _ _ => match t with | .string X => X.size | _ => 0)
 case atStart => exact ⟨0, s.size, s, List.replicate 24 0, Nat.zero_le _, rfl, rfl, Nat.le_refl _, Lib.hid (Or.inr (by omega)), Lib.hid (by rw [<- bts_length, List.take_length]), hs, Lib.hid rfl, Lib.hid Num.zeros.low, Lib.hid (by rw [Dc.valB_zeros, <- bts_length, List.take_length]; simp), Lib.hid rfl, R1.out, R2.out, B0.out⟩
 case round =>
  obtain ⟨k, m, S, O, hk, rfl, rfl, hm, hmk, hS, hSs, hSm, hlow, hval, hdr, hr1, hr2, hB⟩ := hrel
  by_cases hm0 : m = 0
  ·subst hm0
   have hSe : S.toList.isEmpty = true := isEmpty_yes hSm.out
   have hN : Hid (Num O) := Lib.hid ⟨hr2.len, hlow.out⟩
   have hV : Hid (Dc.valB O = Dc.val (bts s)) := Lib.hid (by rw [hval.out]; simp [Dc.val])
   have hl := hr2.len
   have R3 : Hid _ := Lib.hid (hr1.set hl)
   clear hmk hS hlow hval hdr hm
   go_wp2_with (first
    | (refine wp_loadN hr2 rfl _ rfl rfl ?_)
    | (refine wp_storeN hr1 hl rfl _ _ rfl rfl rfl ?_))
   (try simp only [Exit.inBlock, Exit.then]); refine bodyPost_ret (R3.out.result rfl rfl) rfl ?_
   exact ⟨⟨O, rfl, hN.out, hV.out⟩, below_setRow hB (Nat.le_refl _) _⟩
  ·have hmk2 : m + 9 * k = s.size := by have := hmk.out; omega
   have hk' : k < 24 := by omega
   have k0 : (0 : Int) <= (k : Int) := by omega
   have k1 : (k : Int) < 24 := by omega
   have hSe : S.toList.isEmpty = false := isEmpty_no (by have := hSm.out; omega)
   obtain ⟨f, hf⟩ : ∃ f : Nat, f = m - 9 := ⟨_, rfl⟩
   have hmx : max (0 : Int) ((S.size : Int) - 9) = (f : Int) := by have := hSm.out; omega
   have hfS : f <= S.size := by have := hSm.out; omega
   obtain ⟨x1, hx1⟩ : ∃ x, S.extract f S.size = x := ⟨_, rfl⟩
   obtain ⟨x2, hx2⟩ : ∃ x, S.extract 0 f = x := ⟨_, rfl⟩
   have hst := parse_step hS.out hm hf
   have hb1 : bts x1 = (bts S).drop f := by rw [<- hx1, bts_from]
   have hb2 : bts x2 = (bts s).take f := by rw [<- hx2, bts_extract, List.drop_zero, hst.2]
   have hx1s : x1.size = m - f := by rw [<- bts_length, hb1, List.length_drop, bts_length, hSm.out]
   have hx2s : x2.size = f := by rw [<- bts_length, hb2, List.length_take, bts_length]; omega
   have hd1 : (bts x1).all Dc.dig = true := by
    rw [hb1]; refine List.all_eq_true.2 fun c hc => List.all_eq_true.1 HD.out c ?_
    have := List.mem_of_mem_drop hc
    rw [hS.out] at this
    exact List.mem_of_mem_take this
   obtain ⟨v, hv⟩ : ∃ v, Dc.val (bts x1) = v := ⟨_, rfl⟩
   have C : Hid (∀ w, Calls Tryz.prog 129 #[.string x1, .int .i64 10, .int .i64 32] w fun e w' => e = .returned (.tuple #[.int .u64 (v : Int), .nilIface]) /\ Below w.heap.size w w') := Lib.hid (by rw [<- hv]; exact pu_any x1 (by omega) (by omega) hd1)
   have hvl : v < 1000000000 := by
    have h1 := Dc.val_lt hd1
    rw [hv, bts_length] at h1
    have h2 : 10 ^ x1.size <= 10 ^ 9 := Nat.pow_le_pow_right (by decide) (by omega)
    omega
   have f1 := hr2.open (j := k)
   have hzk : O.getD k 0 = 0 := by rw [drop_at hdr.out, List.getD_eq_getElem?_getD, List.getElem?_replicate, if_pos hk']; rfl
   have hval2 : Hid (Dc.val (bts s) = Dc.valB (O.set k v) + 1000000000 ^ (k + 1) * Dc.val ((bts s).take f)) := Lib.hid (by
    have h1 := Dc.valB_set (l := O) (x := v) (by rw [hr2.len]; exact hk')
    rw [hzk, Nat.mul_zero, Nat.add_zero] at h1
    rw [hval.out, h1, hst.1, <- hb1, hv]
    exact parse_sum hf)
   have hlow2 : Hid (∀ d ∈ O.set k v, d < 1000000000) := Lib.hid (fun d hd => by
    rcases List.mem_or_eq_of_mem_set hd with h | h
    ·exact hlow.out d h
    ·rw [h]; exact hvl)
   have hdr2 : Hid ((O.set k v).drop (k + 1) = (List.replicate 24 0).drop (k + 1)) := Lib.hid (drop_step hdr.out)
   have hx2l : x2.size <= 216 := by omega
   have HX2S : Hid _ := Lib.hid hx2s
   have HB2 : Hid _ := Lib.hid hb2
   have hmk3 : Hid (f = 0 \/ f + 9 * (k + 1) = s.size) := Lib.hid (by omega)
   have hfm : f < m := by omega
   have hfs : f <= s.size := by omega
   clear hmk hmk2 hf hst hb1 hb2 hx1s hx2s hd1 hv hzk hlow hval hdr hm0
   go_wp2_with (go_at_call 129; refine (C.out _).mono ?_; rintro e w1 ⟨rfl, hb⟩; have g1 := hr1.keep hb; have g2 := hr2.keep hb; have f2 := g2.open (j := k); have c2 := g2.cell hk'; have HBB : Hid _ := Lib.hid (hB.trans (hb.mono hB.size)))
   go_region
   all_goals go_wp2
   all_goals go_roundw
   case rel => exact ⟨k + 1, f, x2, O.set k v, by omega, rfl, rfl, hfs, hmk3, HB2, hx2l, HX2S, hlow2, hval2, hdr2, (g1.drew _).apart (by omega) k _, (g2.drew _).put k _, (below_drewN HBB.out _).setCell (p := ⟨w.heap.size + 1, k, none⟩) (by show w.heap.size <= w.heap.size + 1; omega) _⟩
   case measure => simp only; rw [HX2S.out, hSm.out]; exact hfm

theorem Pow.keep {w w' : World} (h : Pow w) (hb : Below w.heap.size w w') : Pow w' := by
 unfold Pow Lib.TabIs World.var? at *
 cases hg : Tryz.prog.globalNamed "internal/strconv.uint64pow10" with
 | none => simp [hg] at h
 | some g =>
  simp only [hg, Option.bind_some] at h ⊢
  have hlt : g < w.heap.size := by
   rcases Nat.lt_or_ge g w.heap.size with h' | h'
   ·exact h'
   ·rw [Array.getElem?_eq_none h'] at h; simp at h
  rw [hb.block g hlt]
  exact h
theorem repeat_zeros (c : Nat) (hc : c <= 1000) (w : World) : Calls Tryz.prog 99 #[.string ⟨#[48]⟩, .int .i64 (c : Int)] w fun e w' => (∃ r : ByteArray, e = .returned (.string r) /\ bts r = List.replicate c 48) /\ Below w.heap.size w w' := by
 refine (Tryz.strings_Repeat ⟨#[48]⟩ c w (by omega) (by show 1 * c <= _; omega)).mono ?_
 rintro e w' ⟨rfl, hb⟩
 refine ⟨⟨_, rfl, ?_⟩, hb⟩
 have e1 : Lib.repeatL (List.replicate 1 (48 : UInt8)) c = List.replicate (c * 1) 48 := Lib.repeatL_replicate 48 1 c
 show (Lib.repeatL (List.replicate 1 (48 : UInt8)) c).map UInt8.toNat = _
 rw [e1, List.map_replicate, Nat.mul_one]; rfl
theorem strCells_bts (s : ByteArray) : Lib.strCells s = u8s (bts s) := by
 have := strCells_str (bts s) (bts_all s)
 rwa [str_bts] at this
theorem top_pow : top = 10 ^ 216 := by unfold top; decide

theorem Row24.blk {W : World} {g : Nat} {l : List Nat} (h : Row24 W g l) : Blk W g 117 (numV l) := h.row
theorem Row24.far {W W' : World} {g r : Nat} {l : List Nat} (h : Row24 W g l) (hb : W.grownBy W' (some r)) (hr : g ≠ r) : Row24 W' g l := ⟨Blk.far h.blk hb hr, h.len⟩
theorem agg_num {l : List Nat} (h : l.length = 24) : aggT 117 (numV l).size = true := by rw [numV_size, h]; kernel_rfl
theorem numV_oneL (l : List Nat) : (numV l).toList.all (·.oneCell') = true := by rw [Array.all_toList]; exact numV_one l
theorem zero_num : (Tryz.prog.info? 117).bind (·.zero) = some (.agg (numV (List.replicate 24 0))) := by kernel_rfl
theorem pscaled_any (n : Bool) (s : ByteArray) (T m : Nat) (hs : s.size <= 60) (hd : (bts s).all Dc.dig = true) (hT : T <= m) (hm : m <= 120) (w : World) : Calls Tryz.prog 83 #[.agg #[.bool n, .string s, .int .i64 (T : Int)], .int .i64 (m : Int)] w fun e w' => (∃ O : List Nat, e = .returned (.agg (numV O)) /\ Num O /\ Dc.valB O = Dc.val (bts s) * 10 ^ (m - T)) /\ Below w.heap.size w w' := by
 obtain ⟨c, hc⟩ : ∃ c, m - T = c := ⟨_, rfl⟩
 have hci : IntKind.i64.wrap ((m : Int) - (T : Int)) = (c : Int) := by rw [IntKind.wrap_i64]; omega
 have C1 : Hid _ := Lib.hid (repeat_zeros c (by omega))
 have HD : Hid _ := Lib.hid hd
 have HC : Hid _ := Lib.hid hc
 have hcl : c <= 120 := by omega
 rw [hc]
 clear hd hc
 go_enter Tryz.func83, Tryz.ntmps83
 go_wp2_with (first
  | (refine wl_boxA rfl _ rfl rfl (fun W2 b2 hb2 => ?_))
  | (refine wl_allocA rfl zero_num rfl (fun W4 b4 hb4 => ?_); have k2 := b2.keep hb4; have hB := below_step hb2 hb4; have n24 : w.heap.size ≠ W2.heap.size := Nat.ne_of_lt b2.lt; have hsz := hb2.size; have b4' : Row24 W4.drew W2.heap.size (List.replicate 24 0) := ⟨b4, rfl⟩; clear b4 hb2 hb4 b2))
 refine wp_region_held_drew (S := fun W : World => Below w.heap.size w W /\ Blk W w.heap.size 24 #[.bool n, .string s, .int .i64 (T : Int)]) (by kernel_rfl) ⟨below_step hB (below_drew _), k2.drew⟩ (fun hS => ?_)
 refine takeE (i := 0) (d := some 5) (v := ?v1) rfl rfl (Or.inl ⟨by rfl, ?h1⟩) hS ?_
 case h1 => intro W _; go_simp; try with_reducible rfl
 simp only [Act.put, zA, zB, zC]
 refine takeE (i := 1) (d := some 6) (v := .string s) rfl rfl (yields_C rfl (by rfl) (by kernel_rfl) _ rfl (j := 1) rfl rfl (fun W hW => hW.2)) hS ?_
 simp only [Act.put, zA, zB, zC]
 refine takeE (i := 2) (d := some 7) (v := ?v2) rfl rfl (Or.inl ⟨by rfl, ?h2⟩) hS ?_
 case h2 => intro W _; go_simp; try with_reducible rfl
 simp only [Act.put, zA, zB, zC]
 refine takeE (i := 3) (d := some 8) (v := ?v3) rfl rfl (Or.inl ⟨by rfl, ?h3⟩) hS ?_
 case h3 => intro W _; go_simp; try with_reducible rfl
 simp only [Act.put, zA, zB, zC]
 refine takeE (i := 4) (d := some 9) (v := .int .i64 (T : Int)) rfl rfl (yields_C rfl (by rfl) (by kernel_rfl) _ rfl (j := 2) rfl rfl (fun W hW => hW.2)) hS ?_
 simp only [Act.put, zA, zB, zC]
 refine takeE (i := 5) (d := some 10) (v := ?v4) rfl rfl (Or.inl ⟨by rfl, ?h4⟩) hS ?_
 case h4 => intro W _; go_simp; try with_reducible rfl
 simp only [Act.put, zA, zB, zC]
 refine ready1 (i := 6) rfl (fun Kc hKc => ?_)
 go_simp
 refine (C1.out _).mono ?_
 rintro e W5 ⟨⟨r, rfl, hr⟩, hb⟩
 replace b4' := b4'.keep hb
 have hrl : r.size <= 120 := by rw [<- bts_length, hr, List.length_replicate]; omega
 obtain ⟨u, hu⟩ : ∃ u, s ++ r = u := ⟨_, rfl⟩
 have hub : bts u = bts s ++ List.replicate c 48 := by rw [<- hu, str_add, hr]
 have HU : Hid _ := Lib.hid hub
 clear hr hub
 refine hKc.out _ _ ⟨below_step hS.1 hb, hS.2.keep hb⟩ (fun hS => ?_)
 clear hKc Kc
 refine takeE (i := 7) (d := some 12) (v := ?v5) rfl rfl (Or.inl ⟨by rfl, ?h5⟩) hS ?_
 case h5 => intro W _; have hq : ¬ 9223372036854775807 < s.size + r.size := (by omega); go_simp; try with_reducible rfl
 simp only [Act.put, zA, zB, zC]
 refine ready1 (i := 8) rfl (fun Kc hKc => ?_)
 go_simp
 refine (pparse_any u (by rw [<- bts_length, HU.out, List.length_append, bts_length, List.length_replicate]; omega) (by rw [HU.out, List.all_append, HD.out, Dc.zeros_dig]; rfl) _).mono ?_
 rintro e W6 ⟨⟨O, rfl, hO⟩, hb⟩
 replace b4' := b4'.keep hb
 have hOl := hO.1.len
 have HO : Hid _ := Lib.hid hO
 clear hO
 refine hKc.out _ _ ⟨below_step hS.1 hb, hS.2.keep hb⟩ (fun hS => ?_)
 clear hKc Kc
 refine ready1 (i := 9) rfl (fun Kc hKc => ?_)
 refine st_of rfl (wp_storeA b4'.blk _ _ rfl rfl rfl (agg_num hOl) (by rw [numV_size, numV_size, hOl]; rfl) (numV_oneL O) rfl (fun W7 b7 hg => ?_))
 refine hKc.out _ _ ⟨below_far hS.1 hS.1.size (by omega) hg, hS.2.far hg (by omega)⟩ (fun hS => ?_)
 clear hKc Kc
 refine wpAnyH_done (by kernel_rfl) ?_ _
 go_wp2
 refine bodyPost_ret (res_cell rfl b7 (agg_num hOl) rfl) rfl ⟨⟨O, rfl, HO.out.1, by rw [HO.out.2, HU.out, Dc.val_zeros_back]⟩, hS.1⟩
open Go.Ex
set_option maxRecDepth 1000000

theorem zero_dec : (Tryz.prog.info? 24).bind (·.zero) = some (.agg #[.bool false, .string ⟨#[]⟩, .int .i64 0]) := by kernel_rfl
theorem rcheck_r (n : Bool) (s : ByteArray) (S : Int) (hs : s.size <= 1000000) (r : Int) (hr : ckI n s S = r) (w : World) : Calls Tryz.prog 39 #[.agg #[.bool n, .string s, .int .i64 S]] w fun e w' => e = .returned (.int .i64 r) /\ Below w.heap.size w w' := by
 rw [<- hr]; exact rcheck_any n s S hs w
theorem scaled_low {s : ByteArray} {c : Nat} (hs : s.size <= 60) (hd : (bts s).all Dc.dig = true) (hc : c <= 60) : Dc.val (bts s) * 10 ^ c < 10 ^ 120 := by
 have h1 := Dc.val_lt hd
 rw [bts_length] at h1
 have h2 : (10 : Nat) ^ s.size <= 10 ^ 60 := Nat.pow_le_pow_right (by decide) hs
 have h3 : (10 : Nat) ^ c <= 10 ^ 60 := Nat.pow_le_pow_right (by decide) hc
 have h4 : Dc.val (bts s) * 10 ^ c <= Dc.val (bts s) * 10 ^ 60 := Nat.mul_le_mul_left _ h3
 have h5 : Dc.val (bts s) * 10 ^ 60 < 10 ^ 60 * 10 ^ 60 := Nat.mul_lt_mul_of_pos_right (Nat.lt_of_lt_of_le h1 h2) (Dc.pow10_pos 60)
 rw [<- Nat.pow_add] at h5
 exact Nat.lt_of_le_of_lt h4 h5
def zs (c : Nat) : ByteArray := str (List.replicate c 48)
theorem zs_bts (c : Nat) : bts (zs c) = List.replicate c 48 := bts_str _ (fun b hb => by rw [List.eq_of_mem_replicate hb]; decide)
theorem zs_size (c : Nat) : (zs c).size = c := by rw [zs, str_size, List.length_replicate]
def zf (s : ByteArray) (c : Nat) : ByteArray := s ++ zs c
theorem zf_bts (s : ByteArray) (c : Nat) : bts (zf s c) = bts s ++ List.replicate c 48 := by rw [zf, str_add, zs_bts]
theorem zf_size (s : ByteArray) (c : Nat) : (zf s c).size = s.size + c := by rw [zf, ByteArray.size_append, zs_size]
theorem zf_val (s : ByteArray) (c : Nat) : Dc.val (bts (zf s c)) = Dc.val (bts s) * 10 ^ c := by rw [zf_bts, Dc.val_zeros_back]
theorem zf_all {s : ByteArray} (h : (bts s).all Dc.dig = true) (c : Nat) : (bts (zf s c)).all Dc.dig = true := by rw [zf_bts, List.all_append, h, Dc.zeros_dig]; rfl
theorem zf_digs {s : ByteArray} (h : Digs s) (c : Nat) : Digs (zf s c) := ⟨zf_all h.all c, by rw [zf_bts]; simp [h.ne]⟩
theorem rzeros_v (z : Int) (n : Nat) (hz : z = n) (hn : n <= 1000000) (w : World) : Calls Tryz.prog 69 #[.int .i64 z] w fun e w' => e = .returned (.string (zs n)) /\ Below w.heap.size w w' := by
 refine (rzeros_any z n hz hn w).mono ?_
 rintro e w' ⟨⟨t, rfl, rfl⟩, rfl⟩
 exact ⟨rfl, Below.refl _ _⟩
def resL (r : Res) : List Value := [.bool r.n, .string r.s, .int .i64 r.S, .int .i64 r.k]
def Res.val (r : Res) : Value := .tuple #[.agg #[.bool r.n, .string r.s, .int .i64 r.S], .int .i64 r.k]
def ResAt (E : Nat -> Value) (b : Nat) (r : Res) : Prop := E b = .bool r.n /\ E (b + 1) = .string r.s /\ E (b + 2) = .int .i64 r.S /\ E (b + 3) = .int .i64 r.k
def rsV (b : Nat) : V := .tup [deV b, xi (b + 3)]
theorem ResAt.den {E : Nat -> Value} {b : Nat} {r : Res} (h : ResAt E b r) : (rsV b).den L0 E = r.val := by
 obtain ⟨h1, h2, h3, h4⟩ := h
 simp only [rsV, deV, xb, xs, xi, V.den, V.dens, X.evB, X.evS, X.evI, h1, h2, h3, h4, Res.val]
def mxX : X := .mx (.at 3) (.at 6)
theorem mx_nat (a b : Nat) : (if (a : Int) < (b : Int) then (b : Int) else (a : Int)) = ((max a b : Nat) : Int) := by split <;> omega
theorem wsub {a b : Nat} (h : b <= a) (h2 : a <= 1000) : IntKind.i64.wrap (((a : Nat) : Int) - (b : Int)) = ((a - b : Nat) : Int) := by rw [IntKind.wrap_i64]; omega
def smC : List CallX := [⟨69, [.xi .i64 (.sub .i64 mxX (.at 3))], [], xs 7⟩, ⟨69, [.xi .i64 (.sub .i64 mxX (.at 6))], [], xs 8⟩]
def smF : Fx := [(.fits (.at 2) (.at 7), true), (.fits (.at 5) (.at 8), true)]
theorem run_same : chk (runTr Tryz.prog nG (fun _ => none) (fun _ => true) deT smC 100 87 [deV 1, deV 4] hN) (.leaf (.tup [.xs (.cat (.at 2) (.at 7)), .xs (.cat (.at 5) (.at 8)), .xi .i64 mxX])) smF = true := by decide +kernel
theorem rsame_any (n : Bool) (s : ByteArray) (T : Nat) (m : Bool) (t : ByteArray) (V M : Nat) (hM : max T V = M) (hs : s.size <= 60) (ht : t.size <= 60) (hT : T <= 60) (hV : V <= 60) (w : World) : Calls Tryz.prog 87 #[.agg #[.bool n, .string s, .int .i64 (T : Int)], .agg #[.bool m, .string t, .int .i64 (V : Int)]] w fun e w' => e = .returned (.tuple #[.string (zf s (M - T)), .string (zf t (M - V)), .int .i64 (M : Int)]) /\ Below w.heap.size w w' := by
 subst hM
 refine tree_nv (env := [.bool n, .string s, .int .i64 (T : Int), .bool m, .string t, .int .i64 (V : Int), .string (zs (max T V - T)), .string (zs (max T V - V))]) run_same ⟨⟨rfl, fk, fun _ L w _ => rzeros_v _ _ ?_ (by omega) w⟩, ⟨rfl, fk, fun _ L w _ => rzeros_v _ _ ?_ (by omega) w⟩, trivial⟩ rfl ⟨decide_eq_true ?_, decide_eq_true ?_, trivial⟩ rfl rfl ?_ (w := w)
 ·show IntKind.i64.wrap ((if (T : Int) < (V : Int) then (V : Int) else (T : Int)) - (T : Int)) = _
  rw [mx_nat, wsub (by omega) (by omega)]
 ·show IntKind.i64.wrap ((if (T : Int) < (V : Int) then (V : Int) else (T : Int)) - (V : Int)) = _
  rw [mx_nat, wsub (by omega) (by omega)]
 ·show s.size + (zs _).size <= _
  rw [zs_size]; omega
 ·show t.size + (zs _).size <= _
  rw [zs_size]; omega
 ·show Value.tuple #[.string (zf s _), .string (zf t _), .int .i64 (if (T : Int) < (V : Int) then (V : Int) else (T : Int))] = _
  rw [mx_nat]
set_option maxRecDepth 1000000

theorem ck_zero (n : Bool) (s : ByteArray) (S : Int) : decide (ckI n s S = 0) = okB n s S := by
 cases h : okB n s S
 ·rw [ck_no h]; rfl
 ·rw [ck_yes h]; rfl
def twP : Fx := [(.eq (.at 7) (.int 0), true), (.eq (.at 8) (.int 0), true)]
theorem tw_of {n m : Bool} {s t : ByteArray} {S U a b : Int} (ha : a = ckI n s S) (hb : b = ckI m t U) (h : decide (a = 0) = true /\ decide (b = 0) = true /\ True) : OkD n s S /\ OkD m t U /\ okB n s S = true /\ okB m t U = true := by
 have h1 := h.1; have h2 := h.2.1
 rw [ha, ck_zero] at h1; rw [hb, ck_zero] at h2
 exact ⟨okB_ok h1, okB_ok h2, h1, h2⟩
section
variable (n : Bool) (s : ByteArray) (S : Int) (m : Bool) (t : ByteArray) (U : Int) (hs : s.size <= 1000000) (ht : t.size <= 1000000) (r : Res)
include hs ht
end

theorem rless_ord (r : Bool) (X Y : Nat) (hr : decide (X < Y) = r) (s t : ByteArray) (hs : s.size <= 120) (ht : t.size <= 120) (h1 : Digs s) (h2 : Digs t) (hX : Dc.val (bts s) = X) (hY : Dc.val (bts t) = Y) (w : World) : Calls Tryz.prog 88 #[.string s, .string t] w fun e w' => e = .returned (.bool r) /\ Below w.heap.size w w' := by
 refine (rless_any s t (by omega) (by omega) h1 h2 w).mono ?_
 rintro e w' ⟨rfl, rfl⟩
 subst hX; subst hY
 exact ⟨by rw [hr], Below.refl _ _⟩
def cmA (b : Bool) (i : Nat) : V := .agg [.bool b, xs (i + 1), xi (i + 2)]
def cmN : List CallX := [⟨39, [deV 1], [], xi 7⟩, ⟨39, [deV 4], [], xi 8⟩]
def cmNo1 : Fx := [(.eq (.at 7) (.int 0), false)]
def cmNo2 : Fx := [(.eq (.at 7) (.int 0), true), (.eq (.at 8) (.int 0), false)]
def cmC (b c : Bool) : List CallX := [⟨39, [cmA b 1], [], it 0⟩, ⟨39, [cmA c 4], [], it 0⟩, ⟨87, [cmA b 1, cmA c 4], [], .tup [xs 9, xs 10, xi 11]⟩, ⟨88, [xs 9, xs 10], [], xb 12⟩]
def cmL (b : Bool) : Tree := .node (.beq (.at 12) (.tt b)) (.leaf (.tup [it 1, it 0])) (.leaf (.tup [it (-1), it 0]))
def cmT (b c : Bool) : Tree := bif b == c then .node (.seq (.at 2) (.at 5)) (.node (.eq (.at 3) (.at 6)) (.leaf (.tup [it 0, it 0])) (cmL b)) (cmL b) else .leaf (.tup [it (bif b then -1 else 1), it 0])
theorem run_cmpNo1 : chk (runTr Tryz.prog nG (fun _ => none) (fun _ => true) deT cmN 100 45 [deV 1, deV 4] hN) (.leaf (.tup [it 0, it 2])) cmNo1 = true := by decide +kernel
theorem run_cmpNo2 : chk (runTr Tryz.prog nG (fun _ => none) (fun _ => true) deT cmN 100 45 [deV 1, deV 4] hN) (.leaf (.tup [it 0, it 2])) cmNo2 = true := by decide +kernel
theorem run_cmp : ∀ b c : Bool, chk (runTr Tryz.prog nG (fun _ => none) (fun _ => true) deT (cmC b c) 100 45 [cmA b 1, cmA c 4] hN) (cmT b c) [] = true := by decide +kernel
def cmE (n : Bool) (s : ByteArray) (S : Int) (m : Bool) (t : ByteArray) (U : Int) : List Value := [.bool n, .string s, .int .i64 S, .bool m, .string t, .int .i64 U, .int .i64 (ckI n s S), .int .i64 (ckI m t U), .string (zf s (max S.toNat U.toNat - S.toNat)), .string (zf t (max S.toNat U.toNat - U.toNat)), .int .i64 ((max S.toNat U.toNat : Nat) : Int),
 .bool (decide (Dc.val (bts s) * 10 ^ (max S.toNat U.toNat - S.toNat) < Dc.val (bts t) * 10 ^ (max S.toNat U.toNat - U.toNat)))]
section
variable (n : Bool) (s : ByteArray) (S : Int) (m : Bool) (t : ByteArray) (U : Int)
theorem cmN_ok (hs : s.size <= 1000000) (ht : t.size <= 1000000) : AllX Tryz.prog (envE (.int .i64 0 :: cmE n s S m t U)) (fun _ => True) cmN :=
 ⟨⟨rfl, fk, fun _ L w _ => rcheck_r n s S hs _ rfl w⟩, ⟨rfl, fk, fun _ L w _ => rcheck_r m t U ht _ rfl w⟩, trivial⟩
theorem rCmp_no (hs : s.size <= 1000000) (ht : t.size <= 1000000) (h : ¬ (okB n s S = true /\ okB m t U = true)) (w : World) : Calls Tryz.prog 45 #[.agg #[.bool n, .string s, .int .i64 S], .agg #[.bool m, .string t, .int .i64 U]] w fun e w' => e = .returned (.tuple #[.int .i64 0, .int .i64 2]) /\ Below w.heap.size w w' := by
 cases h1 : okB n s S with
 | false => exact tree_none (env := cmE n s S m t U) run_cmpNo1 (cmN_ok n s S m t U hs ht) rfl ⟨by show decide (ckI n s S = 0) = false; rw [ck_no h1]; rfl, trivial⟩ rfl
 | true =>
  cases h2 : okB m t U with
  | false => exact tree_none (env := cmE n s S m t U) run_cmpNo2 (cmN_ok n s S m t U hs ht) rfl ⟨by show decide (ckI n s S = 0) = true; rw [ck_yes h1]; rfl, by show decide (ckI m t U = 0) = false; rw [ck_no h2]; rfl, trivial⟩ rfl
  | true => exact absurd ⟨h1, h2⟩ h
theorem cmC_ok (k1 : OkD n s S) (k2 : OkD m t U) (h1 : okB n s S = true) (h2 : okB m t U = true) : AllX Tryz.prog (envE (.int .i64 0 :: cmE n s S m t U)) (fun _ => True) (cmC n m) := by
 have e1 : ((S.toNat : Nat) : Int) = S := Int.toNat_of_nonneg k1.low
 have e2 : ((U.toNat : Nat) : Int) = U := Int.toNat_of_nonneg k2.low
 have hS : S.toNat <= 60 := by have := k1.high; omega
 have hU : U.toNat <= 60 := by have := k2.high; omega
 have hsm : ∀ w : World, Calls Tryz.prog 87 #[.agg #[.bool n, .string s, .int .i64 S], .agg #[.bool m, .string t, .int .i64 U]] w fun e w' => e = .returned (.tuple #[.string (zf s (max S.toNat U.toNat - S.toNat)), .string (zf t (max S.toNat U.toNat - U.toNat)), .int .i64 ((max S.toNat U.toNat : Nat) : Int)]) /\ Below w.heap.size w w' := fun w => by
  have q := rsame_any n s S.toNat m t U.toNat _ rfl k1.size k2.size hS hU w
  rw [e1, e2] at q
  exact q
 have l1 := zf_size s (max S.toNat U.toNat - S.toNat)
 have l2 := zf_size t (max S.toNat U.toNat - U.toNat)
 have z1 := k1.size
 have z2 := k2.size
 exact ⟨⟨rfl, fk, fun _ L w _ => rcheck_r n s S (by omega) _ (ck_yes h1) w⟩, ⟨rfl, fk, fun _ L w _ => rcheck_r m t U (by omega) _ (ck_yes h2) w⟩,
  ⟨rfl, fk, fun _ L w _ => hsm w⟩,
  ⟨rfl, fk, fun _ L w _ => rless_ord _ _ _ rfl _ _ (by omega) (by omega) (zf_digs k1.dig _) (zf_digs k2.dig _) (zf_val _ _) (zf_val _ _) w⟩, trivial⟩
theorem cmT_at (k1 : OkD n s S) (k2 : OkD m t U) : ((cmT n m).at (envE (.int .i64 0 :: cmE n s S m t U))).den L0 (envE (.int .i64 0 :: cmE n s S m t U)) = .tuple #[.int .i64 (Dc.cmpD (rawD n s S) (rawD m t U)), .int .i64 0] := by
 have hl : ∀ b : Bool, ((cmL b).at (envE (.int .i64 0 :: cmE n s S m t U))).den L0 (envE (.int .i64 0 :: cmE n s S m t U)) = .tuple #[.int .i64 (bif decide (Dc.val (bts s) * 10 ^ (max S.toNat U.toNat - S.toNat) < Dc.val (bts t) * 10 ^ (max S.toNat U.toNat - U.toNat)) == b then 1 else -1), .int .i64 0] := fun b => by
  have e : (cmL b).at (envE (.int .i64 0 :: cmE n s S m t U)) = bif decide (Dc.val (bts s) * 10 ^ (max S.toNat U.toNat - S.toNat) < Dc.val (bts t) * 10 ^ (max S.toNat U.toNat - U.toNat)) == b then .tup [it 1, it 0] else .tup [it (-1), it 0] := rfl
  rw [e]
  cases (decide (Dc.val (bts s) * 10 ^ (max S.toNat U.toNat - S.toNat) < Dc.val (bts t) * 10 ^ (max S.toNat U.toNat - U.toNat)) == b) <;> rfl
 have he : n = m -> ((cmT n m).at (envE (.int .i64 0 :: cmE n s S m t U))).den L0 (envE (.int .i64 0 :: cmE n s S m t U)) = if s = t /\ S = U then .tuple #[.int .i64 0, .int .i64 0] else ((cmL n).at (envE (.int .i64 0 :: cmE n s S m t U))).den L0 (envE (.int .i64 0 :: cmE n s S m t U)) := fun h => by
  subst h
  unfold cmT
  rw [beq_self_eq_true, cond_true]
  have e : ∀ a b : Tree, (Tree.node (.seq (.at 2) (.at 5)) a b).at (envE (.int .i64 0 :: cmE n s S n t U)) = bif decide (s = t) then a.at (envE (.int .i64 0 :: cmE n s S n t U)) else b.at (envE (.int .i64 0 :: cmE n s S n t U)) := fun _ _ => rfl
  have e3 : ∀ a b : Tree, (Tree.node (.eq (.at 3) (.at 6)) a b).at (envE (.int .i64 0 :: cmE n s S n t U)) = bif decide (S = U) then a.at (envE (.int .i64 0 :: cmE n s S n t U)) else b.at (envE (.int .i64 0 :: cmE n s S n t U)) := fun _ _ => rfl
  rw [e, e3]
  by_cases h1 : s = t
  ·rw [decide_eq_true h1, cond_true]
   by_cases h2 : S = U
   ·rw [decide_eq_true h2, cond_true, if_pos ⟨h1, h2⟩]; rfl
   ·rw [decide_eq_false h2, cond_false, if_neg (fun q => h2 q.2)]
  ·rw [decide_eq_false h1, cond_false, if_neg (fun q => h1 q.1)]
 have c0 : ¬ (n = m /\ s = t /\ S = U) -> Dc.cmpD (rawD n s S) (rawD m t U) ≠ 0 := fun hn h => hn (by
  have h := Dc.cmpD_eq k1.can k2.can h
  have e1 : n = m := congrArg (·.1) h
  have e2 : Dc.val (bts s) = Dc.val (bts t) := congrArg (·.2.1) h
  have e3 : S.toNat = U.toNat := congrArg (·.2.2) h
  refine ⟨e1, bts_inj (by rw [k1.eq, k2.eq, e2]), ?_⟩
  have := k1.low; have := k2.low; omega)
 by_cases hnm : n = m
 ·subst hnm
  rw [he rfl]
  by_cases hq : s = t /\ S = U
  ·rw [if_pos hq]
   obtain ⟨rfl, rfl⟩ := hq
   rw [Dc.cmpD_self]
  ·rw [if_neg hq, hl]
   have c1 := c0 (fun h => hq h.2)
   cases n
   ·rw [show Dc.cmpD (rawD false s S) (rawD false t U) = _ from Dc.cmpD_pos _ _ _ _ rfl rfl rfl] at c1 ⊢
    unfold Dc.ord at c1 ⊢
    by_cases hlt : Dc.val (bts s) * 10 ^ (max S.toNat U.toNat - S.toNat) < Dc.val (bts t) * 10 ^ (max S.toNat U.toNat - U.toNat)
    ·rw [if_pos hlt, decide_eq_true hlt]; rfl
    ·rw [if_neg hlt] at c1 ⊢
     split at c1
     ·rename_i hgt; rw [if_pos hgt, decide_eq_false hlt]; rfl
     ·exact absurd rfl c1
   ·rw [show Dc.cmpD (rawD true s S) (rawD true t U) = _ from Dc.cmpD_neg _ _ _ _ rfl rfl rfl] at c1 ⊢
    unfold Dc.ord at c1 ⊢
    by_cases hlt : Dc.val (bts s) * 10 ^ (max S.toNat U.toNat - S.toNat) < Dc.val (bts t) * 10 ^ (max S.toNat U.toNat - U.toNat)
    ·rw [if_pos hlt, decide_eq_true hlt]; rfl
    ·rw [if_neg hlt] at c1 ⊢
     split at c1
     ·rename_i hgt; rw [if_pos hgt, decide_eq_false hlt]; rfl
     ·exact absurd rfl c1
 ·cases n <;> cases m
  ·exact absurd rfl hnm
  ·rw [Dc.cmpD_pn k1.can k2.can rfl rfl]; rfl
  ·rw [Dc.cmpD_np k1.can k2.can rfl rfl]; rfl
  ·exact absurd rfl hnm
theorem rcmp_is (hs : s.size <= 1000000) (ht : t.size <= 1000000) (z k : Int) (hr : cmpR n s S m t U = (z, k)) (w : World) : Calls Tryz.prog 45 #[.agg #[.bool n, .string s, .int .i64 S], .agg #[.bool m, .string t, .int .i64 U]] w fun e w' => e = .returned (.tuple #[.int .i64 z, .int .i64 k]) /\ Below w.heap.size w w' := by
 unfold cmpR at hr
 by_cases h : okB n s S = true /\ okB m t U = true
 ·rw [if_pos h] at hr; cases hr
  have q := tree_none (env := cmE n s S m t U) (run_cmp n m) (cmC_ok n s S m t U (okB_ok h.1) (okB_ok h.2) h.1 h.2) rfl trivial rfl (w := w)
  rw [cmT_at n s S m t U (okB_ok h.1) (okB_ok h.2)] at q
  exact q
 ·rw [if_neg h] at hr; cases hr
  exact rCmp_no n s S m t U hs ht h w
end
set_option maxRecDepth 1000000
def lowN (S : Int) : Nat := min S.toNat 60
theorem lowN_eq {S : Int} (h0 : 0 <= S) (h : S <= 60) : ((lowN S : Nat) : Int) = S := by unfold lowN; omega
theorem lowN_le (S : Int) : lowN S <= 60 := by unfold lowN; omega
set_option maxRecDepth 1000000

theorem pof_is (neg : Bool) (s : ByteArray) (S : Nat) (hs : s.size <= 1000) (hS : S <= 1000) (hd : (bts s).all Dc.dig = true) (r : Res) (hr : resOf (Dc.can neg (Dc.val (bts s)) S) = r) (w : World) : Calls Tryz.prog 171 #[.bool neg, .string s, .int .i64 (S : Int)] w fun e w' => e = .returned (.tuple #[.agg #[.bool r.n, .string r.s, .int .i64 r.S], .int .i64 r.k]) /\ Below w.heap.size w w' :=
 (pof_any neg s S hs hS hd w).mono fun _ _ ⟨he, hb⟩ => ⟨he.trans (made_is hr), hb⟩
theorem lt_top {x k : Nat} (h : x < 10 ^ k) (hk : k <= 216) : x < top := by
 rw [top_pow]; exact Nat.lt_of_lt_of_le h (Nat.pow_le_pow_right (by decide) hk)
def numGo : Nat -> Nat -> List Nat
 | 0, _ => []
 | k + 1, x => x % 1000000000 :: numGo k (x / 1000000000)
theorem numGo_len : ∀ k x, (numGo k x).length = k
 | 0, _ => rfl
 | k + 1, x => by rw [numGo, List.length_cons, numGo_len]
theorem numGo_low : ∀ k x, ∀ d ∈ numGo k x, d < 1000000000
 | 0, _, d, h => by cases h
 | k + 1, x, d, h => by
  rcases List.mem_cons.1 h with rfl | h
  ·exact Nat.mod_lt _ (by decide)
  ·exact numGo_low k _ d h
theorem numGo_val : ∀ k x, x < 1000000000 ^ k -> Dc.valB (numGo k x) = x
 | 0, x, h => by rw [Nat.pow_zero] at h; show 0 = x; omega
 | k + 1, x, h => by
  rw [numGo, Dc.valB, numGo_val k _ (Nat.div_lt_of_lt_mul (by rw [Nat.pow_succ] at h; rw [Nat.mul_comm]; exact h))]
  omega
theorem numGo_of : ∀ (l : List Nat), (∀ d ∈ l, d < 1000000000) -> numGo l.length (Dc.valB l) = l
 | [], _ => rfl
 | d :: l, h => by
  have hd := h d (List.mem_cons_self ..)
  have e1 : (d + 1000000000 * Dc.valB l) % 1000000000 = d := by omega
  have e2 : (d + 1000000000 * Dc.valB l) / 1000000000 = Dc.valB l := by omega
  rw [Dc.valB, List.length_cons, numGo, e1, e2, numGo_of l fun d hd => h d (List.mem_cons_of_mem _ hd)]
def numL (x : Nat) : List Nat := numGo 24 x
theorem numL_num (x : Nat) : Num (numL x) := ⟨numGo_len 24 x, numGo_low 24 x⟩
theorem numL_val {x : Nat} (h : x < top) : Dc.valB (numL x) = x := numGo_val 24 x h
theorem numL_of {l : List Nat} (h : Num l) : l = numL (Dc.valB l) := by
 have q := numGo_of l h.low
 rw [h.len] at q
 exact q.symm
def NumIs (l : List Nat) (x : Nat) : Prop := Num l /\ Dc.valB l = x
theorem num_call {f : FuncId} {a : Array Value} {w : World} {x : Nat} {l : List Nat} (hl : NumIs l x) (h : Calls Tryz.prog f a w fun e w' => (∃ O : List Nat, e = .returned (.agg (numV O)) /\ Num O /\ Dc.valB O = x) /\ Below w.heap.size w w') : Calls Tryz.prog f a w fun e w' => e = .returned (.agg (numV l)) /\ Below w.heap.size w w' := by
 refine h.mono ?_
 rintro e w' ⟨⟨O, rfl, hn, hv⟩, hb⟩
 refine ⟨?_, hb⟩
 rw [numL_of hn, numL_of hl.1, hv, hl.2]
theorem num_some {x : Nat} (h : x < top) : ∃ l, NumIs l x := ⟨_, numL_num x, numL_val h⟩
def nuV (b : Nat) : V := .agg ((List.range 24).map fun i => .xi .u32 (.at (b + i)))
def numC (l : List Nat) : List Value := l.map fun n : Nat => .int .u32 (n : Int)
theorem nu_den {E : Nat -> Value} {b : Nat} {l : List Nat} (hl : l.length = 24) (h : ∀ i, i < 24 -> E (b + i) = .int .u32 (l.getD i 0 : Nat)) (L : Ex.Loc) : (nuV b).den L E = .agg (numV l) := by
 have key : ∀ (c : List Nat), V.dens L E (c.map fun i => .xi .u32 (.at (b + i))) = c.map fun i => .int .u32 (X.evI E (.at (b + i))) := by
  intro c
  induction c with
  | nil => rfl
  | cons i c ih => rw [List.map_cons, V.dens, ih, List.map_cons, V.den]
 show Value.agg (V.dens L E _).toArray = _
 rw [key]
 unfold numV
 congr 2
 apply List.ext_getElem
 ·rw [List.length_map, List.length_map, List.length_range, hl]
 ·intro i h1 h2
  rw [List.length_map, List.length_range] at h1
  rw [List.getElem_map, List.getElem_map, List.getElem_range, X.evI, h i h1]
  simp only [List.getD_eq_getElem?_getD, List.getElem?_eq_getElem (show i < l.length by omega), Option.getD_some]
theorem num_at {x : Value} {pre post : List Value} {b : Nat} {l : List Nat} (hl : l.length = 24) (hb : b = pre.length + 1) (i : Nat) (hi : i < 24) : envE (x :: (pre ++ (numC l ++ post))) (b + i) = .int .u32 (l.getD i 0 : Nat) := by
 subst hb
 have hi' : i < l.length := by omega
 unfold envE numC
 rw [show pre.length + 1 + i = (pre.length + i) + 1 by omega, List.getD_eq_getElem?_getD, List.getElem?_cons_succ, List.getElem?_append_right (by omega), show pre.length + i - pre.length = i by omega, List.getElem?_append_left (by rw [List.length_map]; exact hi'), List.getElem?_map]
 simp only [List.getD_eq_getElem?_getD, List.getElem?_eq_getElem hi', Option.map_some, Option.getD_some]
theorem numC_one (l : List Nat) : (numC l).all Value.oneCell' = true := by
 unfold numC
 rw [List.all_map, List.all_eq_true]
 intro n _; rfl
theorem call2 {f : FuncId} {a b a' b' : Value} {w : World} {Q : Ending -> World -> Prop} (h : a = b) (h' : a' = b') (q : Calls Tryz.prog f #[b, b'] w Q) : Calls Tryz.prog f #[a, a'] w Q := by subst h; subst h'; exact q
theorem callR {f : FuncId} {a : Array Value} {u v : Value} {w : World} (h : u = v) (q : Calls Tryz.prog f a w fun e w' => e = .returned v /\ Below w.heap.size w w') : Calls Tryz.prog f a w fun e w' => e = .returned u /\ Below w.heap.size w w' := by subst h; exact q
set_option maxRecDepth 1000000

theorem pcheck_r (n : Bool) (s : ByteArray) (S : Int) (hs : s.size <= 1000000) (r : Int) (hr : ckI n s S = r) (w : World) : Calls Tryz.prog 34 #[.agg #[.bool n, .string s, .int .i64 S]] w fun e w' => e = .returned (.int .i64 r) /\ Below w.heap.size w w' := by
 rw [<- hr]; exact pcheck_any n s S (by omega) w
section
variable (n : Bool) (s : ByteArray) (S : Int) (m : Bool) (t : ByteArray) (U : Int) (hs : s.size <= 1000000) (ht : t.size <= 1000000) (r : Res)
include hs ht
end
end Go.Proofs.YthoojcdjjecogaaGreatDoor
