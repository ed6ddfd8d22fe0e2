/-
  Part 8 of the proof: what functions return, and plain facts (Mdate Mspec Mvars Rdtext Pparse Pdigits Pscaled Rsum Radd Rcmp Rdiv). Conditions: each theorem names its own.
-/
import Derived.Test.YthoojcdjjecogaaGreatDoorG04
import Derived.Test.YthoojcdjjecogaaGreatDoorG06
import Derived.Test.YthoojcdjjecogaaGreatDoorG03
import Derived.Test.YthoojcdjjecogaaGreatDoorG07
set_option maxRecDepth 1000000
set_option maxHeartbeats 16000000
namespace Go.Proofs.YthoojcdjjecogaaGreatDoor.Mo

def lg (y : Int) : Int := if (y % 4 = 0 /\ y % 100 ≠ 0) \/ y % 400 = 0 then 1 else 0
theorem lg_01 (y : Int) : lg y = 0 \/ lg y = 1 := by unfold lg; split <;> simp
def dim (y m : Int) : Int := if m = 2 then 28 + lg y else if m = 4 \/ m = 6 \/ m = 9 \/ m = 11 then 30 else 31
theorem dim_bd (y m : Int) : 28 <= dim y m /\ dim y m <= 31 := by
 have := lg_01 y
 unfold dim; split
 ·omega
 ·split <;> omega
def bef (y : Int) : Int := 365 * y + y / 4 - y / 100 + y / 400
theorem bef_succ (y : Int) : bef y = bef (y - 1) + 365 + lg y := by
 unfold bef lg
 split <;> omega
def cum (y m : Int) : Int := (367 * m - 362) / 12 - (if m <= 2 then 0 else 2 - lg y)
theorem cum_one (y : Int) : cum y 1 = 0 := by unfold cum; rw [if_pos (by decide)]; decide
theorem cum_succ (y m : Int) (h1 : 1 <= m) (h2 : m <= 12) : cum y (m + 1) = cum y m + dim y m := by
 have h : m = 1 \/ m = 2 \/ m = 3 \/ m = 4 \/ m = 5 \/ m = 6 \/ m = 7 \/ m = 8 \/ m = 9 \/ m = 10 \/ m = 11 \/ m = 12 := by omega
 rcases h with rfl | rfl | rfl | rfl | rfl | rfl | rfl | rfl | rfl | rfl | rfl | rfl <;> simp [cum, dim] <;> omega
theorem cum_end (y : Int) : cum y 13 = 365 + lg y := by simp [cum]; omega
theorem cum_mono (y m k : Int) (h1 : 1 <= m) (h2 : m < k) (h3 : k <= 13) : cum y m + dim y m <= cum y k := by
 rw [<- cum_succ y m h1 (by omega)]
 have := lg_01 y
 unfold cum
 split <;> split <;> omega
theorem cum_lo (y m : Int) (h1 : 1 <= m) (h2 : m <= 13) : 0 <= cum y m /\ cum y m <= 366 := by
 have := lg_01 y
 unfold cum
 split <;> omega
def dayN (y m d : Int) : Int := bef (y - 1) + cum y m + d - 1
structure IsDate (n y m d : Int) : Prop where
 m1 : 1 <= m
 m2 : m <= 12
 d1 : 1 <= d
 d2 : d <= dim y m
 eq : n = dayN y m d
theorem date_year {n y m d : Int} (h : IsDate n y m d) : bef (y - 1) <= n /\ n < bef y := by
 obtain ⟨h1, h2, h3, h4, h5⟩ := h
 have hl := cum_lo y m h1 (by omega)
 have hs := cum_succ y m h1 h2
 have he := cum_end y
 have hb := bef_succ y
 have hm : cum y (m + 1) <= cum y 13 := by
  rcases (by omega : m + 1 < 13 \/ 13 <= m + 1) with h | h
  ·have := cum_mono y (m + 1) 13 (by omega) h (by omega)
   have := dim_bd y (m + 1); omega
  ·rw [show m + 1 = 13 by omega]; exact Int.le_refl _
 unfold dayN at h5
 omega
theorem dayN_bd {y m d : Int} (h1 : 1 <= m) (h2 : m <= 12) (h3 : 1 <= d) (h4 : d <= dim y m) : bef (y - 1) <= dayN y m d /\ dayN y m d < bef y := date_year ⟨h1, h2, h3, h4, rfl⟩
def counted (y : Int) : Int := if y < 0 then y + 1 else y
theorem over4 {n : Int} (h : -40000 <= n) : (n + 40000).tdiv 4 - 10000 = n / 4 := by
 rw [Int.tdiv_eq_ediv_of_nonneg (by omega)]; omega
theorem over100 {n : Int} (h : -40000 <= n) : (n + 40000).tdiv 100 - 400 = n / 100 := by
 rw [Int.tdiv_eq_ediv_of_nonneg (by omega)]; omega
theorem over400 {n : Int} (h : -40000 <= n) : (n + 40000).tdiv 400 - 100 = n / 400 := by
 rw [Int.tdiv_eq_ediv_of_nonneg (by omega)]; omega
end Go.Proofs.YthoojcdjjecogaaGreatDoor.Mo
namespace Go.Proofs.YthoojcdjjecogaaGreatDoor
open Go Go.RowKit

structure Mo where
 k : Int
 y : Int
 m : Int
 d : Int
 h : Int
 i : Int
 n : Bool
 s : ByteArray
 S : Int
 z : Bool
 o : Int
namespace Mo
def dateOk (x : Mo) : Prop := x.y ≠ 0 /\ -9999 <= x.y /\ x.y <= 9999 /\ 1 <= x.m /\ x.m <= 12 /\ 1 <= x.d /\ x.d <= dim (counted x.y) x.m
def sixty : ByteArray := ⟨#[54, 48]⟩
def secB (x : Mo) : Bool := okB x.n x.s x.S && (!x.n && decide ((cmpR x.n x.s x.S false sixty 0).1 < 0))
def timeOk (x : Mo) : Prop := secB x = true /\ 0 <= x.h /\ x.h <= 23 /\ 0 <= x.i /\ x.i <= 59
def noDate (x : Mo) : Prop := x.y = 0 /\ x.m = 0 /\ x.d = 0
def noTime (x : Mo) : Prop := x.h = 0 /\ x.i = 0 /\ x.n = false /\ x.s = ⟨#[]⟩ /\ x.S = 0
def Ok (x : Mo) : Prop := (x.k = 1 \/ x.k = 2 \/ x.k = 3) /\ -840 <= x.o /\ x.o <= 840 /\ (x.z = false -> x.o = 0) /\ (if x.k = 2 then noDate x else dateOk x) /\ (if x.k = 1 then noTime x else timeOk x)
instance (x : Mo) : Decidable (Ok x) := by unfold Ok dateOk timeOk noDate noTime; infer_instance
def okB (x : Mo) : Bool := decide (Ok x)
end Mo
end Go.Proofs.YthoojcdjjecogaaGreatDoor
namespace Go.Proofs.YthoojcdjjecogaaGreatDoor
open Go Go.RowKit Go.Ex

def monthLens : List Value := [31, 28, 31, 30, 31, 30, 31, 31, 30, 31, 30, 31].map fun z => Value.int .i64 z
def lenCells : List V := [31, 28, 31, 30, 31, 30, 31, 31, 30, 31, 30, 31].map fun z => .int .i64 z
def powCells : List V := [1, 10, 100, 1000, 10000, 100000, 1000000, 10000000, 100000000, 1000000000, 10000000000, 100000000000, 1000000000000, 10000000000000, 100000000000000, 1000000000000000, 10000000000000000, 100000000000000000, 1000000000000000000, 10000000000000000000].map fun z => .int .u64 z
def rngInts : List Int := [9, 9, 10, 10, 13, 13, 32, 55295, 57344, 65533, 65536, 1114111]
def rngVals : List Value := rngInts.map fun z => Value.int .i32 z
def rngVs : List V := rngInts.map fun z => .int .i32 z
def VarAt (g : Nat) (cells : List Value) (t : TypeId) (w : World) : Prop := ∃ lo hi, w.heap[g]? = some (.cells cells.toArray t (lo, hi)) /\ (hi <= lo \/ cells.length <= lo)
theorem VarAt.next {g : Nat} {cells : List Value} {t : TypeId} {w w' : World} (h : VarAt g cells t w) (hb : Below w.heap.size w w') : VarAt g cells t w' := by
 obtain ⟨lo, hi, h1, h2⟩ := h
 exact ⟨lo, hi, (hb.block _ (Array.getElem?_eq_some_iff.1 h1).1).trans h1, h2⟩
theorem VarAt.lt {g : Nat} {cells : List Value} {t : TypeId} {w : World} (h : VarAt g cells t w) : g < w.heap.size := by
 obtain ⟨lo, hi, h1, h2⟩ := h
 exact (Array.getElem?_eq_some_iff.1 h1).1
structure Vars (m : Int) (w : World) : Prop where
 row0 : VarAt 2 [.int .i64 m] 3 w
 row1 : VarAt 5 (Lib.pow10Tab.map fun z => Value.int .u64 z) 200 w
 row2 : VarAt 0 monthLens 144 w
 row3 : VarAt 1 rngVals 165 w
theorem Vars.next {m : Int} {w w' : World} (h : Vars m w) (hb : Below w.heap.size w w') : Vars m w' := ⟨h.row0.next hb, h.row1.next hb, h.row2.next hb, h.row3.next hb⟩
def row0 : Row := ⟨[.xi .i64 (.at 0)], 3, 1, false, false, none⟩
def row1 : Row := ⟨powCells, 200, 1, false, false, none⟩
def row2 : Row := ⟨lenCells, 144, 1, false, false, none⟩
def row3 : Row := ⟨rngVs, 165, 1, false, false, none⟩
noncomputable def h0 : H := ⟨((((T.e : T Row).put 2 (some row0)).put 5 (some row1)).put 0 (some row2)).put 1 (some row3), nG, 1000000⟩
noncomputable def keptR (h : H) (g : Nat) (q : Row) : Bool := oB (h.rows.get g) fun r => bB (V.eqbs r.cells q.cells) (bB (!r.opn) (Nat.beq r.elem q.elem))
noncomputable def gd (h : H) : Bool := bB (keptR h 2 row0) (bB (keptR h 5 row1) (bB (keptR h 0 row2) (keptR h 1 row3)))
theorem row_at {E : Nat -> Value} {B : World} {L : Ex.Loc} {h : H} {w : World} (hs : Sat E nG B L h w) {g : Nat} (hg : g < nG) {q : Row} (hh : keptR h g q = true) : VarAt g (V.dens L E q.cells) q.elem w := by
 obtain ⟨r, hr, hc⟩ := oB_some hh
 obtain ⟨h1, h2⟩ := bB_true hc
 obtain ⟨h2, h3⟩ := bB_true h2
 obtain ⟨rest, lo, hi, hw, hl, hrest, _⟩ := hs.rows g r hr
 have e : rest = [] := hrest (by simpa using h2)
 rw [e] at hw hl
 rw [hs.glob g hg, List.append_nil, eqbs_eq _ _ h1, Nat.eq_of_beq_eq_true h3] at hw
 rw [eqbs_eq _ _ h1] at hl
 exact ⟨lo, hi, hw, by rw [dens_length]; exact hl⟩
theorem Vars.pow {m : Int} {w : World} (h : Vars m w) : Pow w := by
 obtain ⟨lo', hi', h1, _⟩ := h.row1
 unfold Pow Lib.TabIs World.var?
 rw [show Tryz.prog.globalNamed "internal/strconv.uint64pow10" = some 5 by kernel_rfl, Option.bind_some, h1]
theorem row0_dens {E : Nat -> Value} {L : Ex.Loc} {m : Int} (hE : E 0 = .int .i64 m) : V.dens L E row0.cells = [.int .i64 m] := by simp [row0, V.dens, V.den, X.evI, hE]
theorem gd_good {E : Nat -> Value} {B : World} {L : Ex.Loc} {h : H} {w : World} {m : Int} (hE : E 0 = .int .i64 m) (hs : Sat E nG B L h w) (hg : gd h = true) : Vars m w := by
 obtain ⟨h1, h2⟩ := bB_true hg
 obtain ⟨h2, h3⟩ := bB_true h2
 obtain ⟨h3, h4⟩ := bB_true h3
 have k1 := row_at hs (by decide) h1
 rw [row0_dens hE] at k1
 exact ⟨k1, row_at hs (by decide) h2, row_at hs (by decide) h3, row_at hs (by decide) h4⟩
theorem row_sat {E : Nat -> Value} {L : Ex.Loc} {B : World} {n b : Nat} {r : Row} {w : World} (hL : L.ρ b = b) (hb : b < n) (hB : b < B.heap.size) (hopn : r.opn = false) (hown : r.own = false) (hok : V.oks n r.cells = true) (hone : r.cells.all V.one = true) (hw : VarAt b (V.dens L E r.cells) r.elem w) : RowAt E B L n b r w := by
 obtain ⟨lo, hi, hw, hl⟩ := hw
 rw [dens_length] at hl
 refine ⟨[], lo, hi, ?_, hl, fun _ => rfl, fun h => ?_, hok, hone, hb, ⟨fun h => ?_, fun h => ?_⟩⟩
 ·rw [hL, List.append_nil]; exact hw
 ·rw [hopn] at h; cases h
 ·rw [hown] at h; cases h
 ·rw [hL] at h; omega
theorem start_sat {E : Nat -> Value} {w : World} {m : Int} (hE : E 0 = .int .i64 m) (hV : Vars m w) : Sat E nG w L0 h0 w := by
 refine ⟨fun b r hb => ?_, fun b c r s _ _ h => .inl h, .refl _, fun _ _ => rfl, Nat.le_refl _⟩
 unfold h0 at hb
 simp only [T.get_put, T.get_e] at hb
 split at hb
 ·rename_i e
  cases hb
  subst e
  exact row_sat rfl (by decide) hV.row3.lt rfl rfl rfl rfl hV.row3
 ·split at hb
  ·rename_i e
   cases hb
   subst e
   exact row_sat rfl (by decide) hV.row2.lt rfl rfl rfl rfl hV.row2
  ·split at hb
   ·rename_i e
    cases hb
    subst e
    exact row_sat rfl (by decide) hV.row1.lt rfl rfl rfl rfl hV.row1
   ·split at hb
    ·rename_i e
     cases hb
     subst e
     refine row_sat rfl (by decide) hV.row0.lt rfl rfl rfl rfl ?_
     rw [row0_dens hE]
     exact hV.row0
    ·cases hb
def moKinds : List Kd := [.i .i64, .i .i64, .i .i64, .i .i64, .i .i64, .i .i64, .b, .s, .i .i64, .b, .i .i64]
def moT : EqTab := [(26, moKinds), (24, deKinds)]
theorem mo_sorted {l : List Value} (h : sorted moKinds l) : ∃ k y m d hh i n s S z o, l = [.int .i64 k, .int .i64 y, .int .i64 m, .int .i64 d, .int .i64 hh, .int .i64 i, .bool n, .string s, .int .i64 S, .bool z, .int .i64 o] := by
 obtain ⟨k, l0, e0, g0⟩ := sorted_i h
 obtain ⟨y, l1, e1, g1⟩ := sorted_i g0
 obtain ⟨m, l2, e2, g2⟩ := sorted_i g1
 obtain ⟨d, l3, e3, g3⟩ := sorted_i g2
 obtain ⟨hh, l4, e4, g4⟩ := sorted_i g3
 obtain ⟨i, l5, e5, g5⟩ := sorted_i g4
 obtain ⟨n, l6, e6, g6⟩ := sorted_b g5
 obtain ⟨s, l7, e7, g7⟩ := sorted_s g6
 obtain ⟨S, l8, e8, g8⟩ := sorted_i g7
 obtain ⟨z, l9, e9, g9⟩ := sorted_b g8
 obtain ⟨o, l10, e10, g10⟩ := sorted_i g9
 exact ⟨_, _, _, _, _, _, _, _, _, _, _, by rw [e0, e1, e2, e3, e4, e5, e6, e7, e8, e9, e10, sorted_n g10]⟩
theorem moT_ok : EqS Tryz.prog moT := by
 refine ⟨fun xs ys h1 h2 w => ⟨Tryz.eqGuardType26, ?_⟩, fun xs ys h1 h2 w => ⟨Tryz.eqGuardType24, ?_⟩, trivial⟩
 ·obtain ⟨k, y, m, d, hh, i, n, s, S, z, o, rfl⟩ := mo_sorted h1
  obtain ⟨k', y', m', d', hh', i', n', s', S', z', o', rfl⟩ := mo_sorted h2
  simp only [valsEq, <- toList_dec]
  simp [go_sem, Op.equal, Op.maxDepth]
  simp only [if_ok, Bool.and_true, beq_dec, lbeq_dec]
 ·obtain ⟨n, s, S, rfl⟩ := de_sorted h1
  obtain ⟨n', s', S', rfl⟩ := de_sorted h2
  simp only [valsEq, <- toList_dec]
  simp [go_sem, Op.equal, Op.maxDepth]
  simp only [if_ok, Bool.and_true, beq_dec, lbeq_dec]
theorem tree_run {calls : List CallX} {env : List Value} {m : Int} {n : Nat} {f : FuncId} {args : List V} {F : Fx} {t : Tree} {w : World} (hr : chk (runTr Tryz.prog nG (fun _ => none) gd moT calls n f args h0) t F = true) (hc : AllX Tryz.prog (envE (.int .i64 m :: env)) (Vars m) calls) (hone : env.all Value.oneCell' = true) (hF : F.Ok (envE (.int .i64 m :: env)))
  (hargs : V.oks nG args = true) (hV : Vars m w) : Calls Tryz.prog f (V.dens L0 (envE (.int .i64 m :: env)) args).toArray w fun e w' => e = .returned ((t.at (envE (.int .i64 m :: env))).den L0 (envE (.int .i64 m :: env))) /\ Below w.heap.size w w' :=
 tree_law (envE_one (by rw [List.all_cons, hone]; rfl)) (by kernel_rfl) noExt hF moT_ok hc (fun L h w' hs hg => gd_good rfl hs hg) hr (start_sat rfl hV) hargs
theorem tree_rv {calls : List CallX} {env : List Value} {m : Int} {n : Nat} {f : FuncId} {args : List V} {F : Fx} {t : Tree} {av : Array Value} {v : Value} {w : World} (hr : chk (runTr Tryz.prog nG (fun _ => none) gd moT calls n f args h0) t F = true) (hc : AllX Tryz.prog (envE (.int .i64 m :: env)) (Vars m) calls) (hone : env.all Value.oneCell' = true) (hF : F.Ok (envE (.int .i64 m :: env)))
  (hargs : V.oks nG args = true) (hav : (V.dens L0 (envE (.int .i64 m :: env)) args).toArray = av) (hv : (t.at (envE (.int .i64 m :: env))).den L0 (envE (.int .i64 m :: env)) = v) (hV : Vars m w) : Calls Tryz.prog f av w fun e w' => e = .returned v /\ Below w.heap.size w w' := by
 rw [<- hv, <- hav]; exact tree_run hr hc hone hF hargs hV
def VK (m : Int) (w w' : World) : Prop := Vars m w' /\ Keeps w w'
theorem VK.next {m : Int} {w w' w'' : World} (h : VK m w w') (hb : Below w'.heap.size w' w'') : VK m w w'' := ⟨h.1.next hb, h.2.below hb⟩
theorem okX_mono {P : Program} {E : Nat -> Value} {A B : World -> Prop} (hAB : ∀ w, B w -> A w) {c : CallX} (h : CallX.Ok P E A c) : CallX.Ok P E B c := ⟨h.1, h.2.1, fun hp L w hw => h.2.2 hp L w (hAB w hw)⟩
theorem okX_vk {P : Program} {E : Nat -> Value} {m : Int} {w : World} {c : CallX} (h : CallX.Ok P E (Vars m) c) : CallX.Ok P E (VK m w) c := okX_mono (fun _ h => h.1) h
theorem tree_rk {calls : List CallX} {env : List Value} {m : Int} {n : Nat} {f : FuncId} {args : List V} {F : Fx} {t : Tree} {av : Array Value} {v : Value} {w : World} (hr : chk (runTr Tryz.prog nG (fun _ => none) gd moT calls n f args h0) t F = true) (hc : AllX Tryz.prog (envE (.int .i64 m :: env)) (VK m w) calls) (hone : env.all Value.oneCell' = true) (hF : F.Ok (envE (.int .i64 m :: env)))
  (hargs : V.oks nG args = true) (hav : (V.dens L0 (envE (.int .i64 m :: env)) args).toArray = av) (hv : (t.at (envE (.int .i64 m :: env))).den L0 (envE (.int .i64 m :: env)) = v) (hV : Vars m w) : Calls Tryz.prog f av w fun e w' => e = .returned v /\ Below w.heap.size w w' := by
 rw [<- hv, <- hav]
 exact tree_law (envE_one (by rw [List.all_cons, hone]; rfl)) (by kernel_rfl) noExt hF moT_ok hc (fun L h w' hs hg => ⟨gd_good rfl hs hg, hs.base⟩) hr (start_sat rfl hV) hargs
def moV (b : Nat) : V := .agg [xi b, xi (b + 1), xi (b + 2), xi (b + 3), xi (b + 4), xi (b + 5), xb (b + 6), xs (b + 7), xi (b + 8), xb (b + 9), xi (b + 10)]
def moK (k : Int) (b : Nat) : V := .agg [it k, xi (b + 1), xi (b + 2), xi (b + 3), xi (b + 4), xi (b + 5), xb (b + 6), xs (b + 7), xi (b + 8), xb (b + 9), xi (b + 10)]
def Mo.list (x : Mo) : List Value := [.int .i64 x.k, .int .i64 x.y, .int .i64 x.m, .int .i64 x.d, .int .i64 x.h, .int .i64 x.i, .bool x.n, .string x.s, .int .i64 x.S, .bool x.z, .int .i64 x.o]
def Mo.val (x : Mo) : Value := .agg x.list.toArray
end Go.Proofs.YthoojcdjjecogaaGreatDoor
namespace Go.Proofs.YthoojcdjjecogaaGreatDoor
open Go Go.RowKit
namespace Dc
theorem whole_part (l : List Nat) : (l = whole l /\ part l = []) \/ l = whole l ++ 46 :: part l := by
 unfold whole part
 have h := List.takeWhile_append_dropWhile (p := fun c => decide (c ≠ 46)) (l := l)
 cases hd : l.dropWhile (fun c => decide (c ≠ 46)) with
 | nil => rw [hd, List.append_nil] at h; exact .inl ⟨h.symm, rfl⟩
 | cons c r =>
  have hc : c = 46 := by
   have := List.head?_dropWhile_not (fun c => decide (c ≠ 46)) l
   rw [hd] at this
   simpa using this
  rw [hd, hc] at h
  exact .inr h.symm
theorem takeWhile_all {p : Nat -> Bool} : ∀ {l : List Nat} {c : Nat}, c ∈ l.takeWhile p -> p c = true
 | [], _, h => by simp at h
 | x :: l, c, h => by
  rw [List.takeWhile_cons] at h
  split at h
  ·rename_i hp
   rcases List.mem_cons.1 h with rfl | h
   ·exact hp
   ·exact takeWhile_all h
  ·cases h
theorem whole_part_length (l : List Nat) : (whole l ++ part l).length <= l.length := by
 rcases whole_part l with ⟨h1, h2⟩ | h
 ·rw [<- h1, h2, List.append_nil]; exact Nat.le_refl _
 ·have := congrArg List.length h
  rw [List.length_append, List.length_cons] at this
  rw [List.length_append]; omega
theorem whole_length (l : List Nat) : (whole l).length <= l.length := by
 have := whole_part_length l
 rw [List.length_append] at this; omega
theorem whole_at {l : List Nat} (h : (whole l).length < l.length) : l.getD (whole l).length 0 = 46 /\ l.take (whole l).length = whole l /\ l.drop ((whole l).length + 1) = part l /\ l.length = (whole l).length + 1 + (part l).length := by
 rcases whole_part l with ⟨h1, _⟩ | h1
 ·rw [<- h1] at h; omega
 ·generalize whole l = W at *
  generalize part l = Q at *
  subst h1
  refine ⟨?_, ?_, ?_, ?_⟩
  ·rw [List.getD_eq_getElem?_getD, List.getElem?_append_right (Nat.le_refl _)]; simp
  ·rw [List.take_left']; rfl
  ·rw [<- List.drop_drop, List.drop_left']; rfl; rfl
  ·rw [List.length_append, List.length_cons]; omega
theorem whole_all {l : List Nat} (h : (whole l).length = l.length) : whole l = l /\ part l = [] := by
 rcases whole_part l with ⟨h1, h2⟩ | h1
 ·exact ⟨h1.symm, h2⟩
 ·have := congrArg List.length h1
  rw [List.length_append, List.length_cons] at this; omega
end Dc
def onlyL (l : List Nat) : Bool := l.all Dc.dig && decide (l.length ≠ 0)
theorem onlyB_L (s : ByteArray) : onlyB s = onlyL (bts s) := by unfold onlyB onlyL; rw [bts_length]
def allL (m : List Nat) : List Nat := Dc.whole m ++ Dc.part m
theorem readR_yes {l m : List Nat} {neg : Bool} (hu : Dc.unsign l = (neg, m)) (ho : onlyL (allL m) = true) : readR l = resOf (Dc.can neg (Dc.val (allL m)) (Dc.part m).length) := by
 unfold onlyL at ho
 rw [Bool.and_eq_true, decide_eq_true_eq] at ho
 unfold readR Dc.readD
 rw [hu]
 simp only
 rw [if_pos ⟨ho.1, fun he => ho.2 (by unfold allL; rw [he]; rfl)⟩]
 rfl
theorem readR_no {l m : List Nat} {neg : Bool} (hu : Dc.unsign l = (neg, m)) (ho : onlyL (allL m) = false) : readR l = formR := by
 unfold readR Dc.readD
 rw [hu]
 simp only
 rw [if_neg]
 rintro ⟨h1, h2⟩
 have : onlyL (allL m) = true := by
  unfold onlyL
  rw [Bool.and_eq_true, decide_eq_true_eq]
  exact ⟨h1, fun he => h2 (List.length_eq_zero_iff.1 he)⟩
 rw [this] at ho; cases ho
theorem unsign_minus {s : ByteArray} (h : (bts s).head? = some 45) : Dc.unsign (bts s) = (true, bts (s.extract 1 s.size)) := by
 rw [bts_tail]
 cases hb : bts s with
 | nil => rw [hb] at h; cases h
 | cons c r => rw [hb] at h; obtain rfl : c = 45 := Option.some.inj h; rfl
theorem unsign_plus {s : ByteArray} (h : (bts s).head? = some 43) : Dc.unsign (bts s) = (false, bts (s.extract 1 s.size)) := by
 rw [bts_tail]
 cases hb : bts s with
 | nil => rw [hb] at h; cases h
 | cons c r => rw [hb] at h; obtain rfl : c = 43 := Option.some.inj h; rfl
theorem unsign_none {s : ByteArray} (h1 : (bts s).head? ≠ some 45) (h2 : (bts s).head? ≠ some 43) : Dc.unsign (bts s) = (false, bts s) := by
 cases hb : bts s with
 | nil => rfl
 | cons c r =>
  rw [hb] at h1 h2
  show (if c = 45 then (true, r) else if c = 43 then (false, r) else (false, c :: r)) = _
  rw [if_neg (fun e => h1 (by rw [e]; rfl)), if_neg (fun e => h2 (by rw [e]; rfl))]
end Go.Proofs.YthoojcdjjecogaaGreatDoor
namespace Go.Proofs.YthoojcdjjecogaaGreatDoor
open Go Go.RowKit

theorem parseU (M : Nat) (hM : M < 18446744073709551615) : ∀ (l : List UInt8) (acc : Nat), (l.map UInt8.toNat).all Dc.dig = true -> acc * 10 ^ l.length + Dc.val (l.map UInt8.toNat) <= M -> Lib.parseUintM M acc l = .ok (acc * 10 ^ l.length + Dc.val (l.map UInt8.toNat))
 | [], acc, _, _ => by simp [Lib.parseUintM, Dc.val]
 | c :: r, acc, hd, h => by
  rw [List.map_cons, List.all_cons, Bool.and_eq_true] at hd
  have hc := Dc.dig_iff.1 hd.1
  rw [List.map_cons, Dc.val_cons, List.length_map, List.length_cons, Nat.pow_succ] at h
  have e : acc * (10 ^ r.length * 10) + ((c.toNat - 48) * 10 ^ r.length + Dc.val (r.map UInt8.toNat)) = (acc * 10 + (c.toNat - 48)) * 10 ^ r.length + Dc.val (r.map UInt8.toNat) := by
   rw [Nat.add_mul, Nat.mul_assoc, Nat.mul_comm 10, Nat.add_assoc]
  rw [e] at h
  have hp := Dc.pow10_pos r.length
  have h1 : acc * 10 + (c.toNat - 48) <= M := by
   have : (acc * 10 + (c.toNat - 48)) * 1 <= (acc * 10 + (c.toNat - 48)) * 10 ^ r.length := Nat.mul_le_mul_left _ hp
   omega
  rw [List.map_cons, Dc.val_cons, List.length_map, List.length_cons, Nat.pow_succ, e, Lib.parseUintM, if_pos hc, if_neg (by omega), if_neg (by omega)]
  exact parseU M hM r _ hd.2 h
theorem pu_any (s : ByteArray) (h1 : 1 <= s.size) (h2 : s.size <= 9) (hd : (bts s).all Dc.dig = true) (w : World) : Calls Tryz.prog 129 #[.string s, .int .i64 10, .int .i64 32] w fun e w' => e = .returned (.tuple #[.int .u64 (Dc.val (bts s) : Nat), .nilIface]) /\ Below w.heap.size w w' := by
 have hv := Dc.val_lt hd
 rw [bts_length] at hv
 have hp : 10 ^ s.size <= 10 ^ 9 := Nat.pow_le_pow_right (by decide) h2
 have hne : s.data.toList ≠ [] := fun h => by
  have : s.data.toList.length = s.size := rfl
  rw [h] at this; simp at this; omega
 have h := parseU (2 ^ 32 - 1) (by decide) s.data.toList 0 hd (by rw [Nat.zero_mul, Nat.zero_add]; show Dc.val (bts s) <= _; omega)
 rw [Nat.zero_mul, Nat.zero_add] at h
 refine (Tryz.strconv_ParseUint_10_at32_ok s (by omega) (Dc.val (bts s)) (by unfold Lib.parseUintB; rw [if_neg hne]; exact h) w).mono ?_
 rintro e w' ⟨rfl, hw⟩
 refine ⟨rfl, ?_⟩
 rcases hw with rfl | rfl
 ·exact Below.refl _ _
 ·exact ⟨rfl, rfl, rfl, by rw [Lib.bytesWorld_size]; omega, fun k hk => Lib.bytesWorld_at_old w 5 s k hk⟩
theorem parse_step {s S : ByteArray} {m f : Nat} (hS : bts S = (bts s).take m) (hm : m <= s.size) (hf : f = m - 9) : Dc.val ((bts s).take m) = Dc.val ((bts S).drop f) + 10 ^ (m - f) * Dc.val ((bts s).take f) /\ (bts S).take f = (bts s).take f := by
 have e : (bts S).take f = (bts s).take f := by rw [hS, List.take_take]; congr 1; omega
 refine ⟨?_, e⟩
 rw [<- e, <- hS]
 have h := Dc.val_append ((bts S).take f) ((bts S).drop f)
 rw [List.take_append_drop] at h
 rw [h, Nat.add_comm, Nat.mul_comm, List.length_drop, hS, List.length_take, bts_length, Nat.min_eq_left hm]

theorem parse_sum {m f k V v : Nat} {l : List Nat} (hf : f = m - 9) : V + 1000000000 ^ k * (v + 10 ^ (m - f) * Dc.val (l.take f)) = V + 1000000000 ^ k * v + 1000000000 ^ (k + 1) * Dc.val (l.take f) := by
 rcases Nat.lt_or_ge m 9 with h9 | h9
 ·have h0 : f = 0 := by omega
  rw [h0, List.take_zero, Dc.val_nil, Nat.mul_zero, Nat.mul_zero]; rfl
 ·have e : m - f = 9 := by omega
  have e2 : (10 : Nat) ^ (m - f) = 1000000000 := by rw [e]
  rw [e2, Nat.mul_add, Nat.pow_succ, Nat.add_assoc, Nat.mul_assoc]

theorem pparse_any (s : ByteArray) (hs : s.size <= 216) (hd : (bts s).all Dc.dig = true) (w : World) : Calls Tryz.prog 111 #[.string s] w fun e w' => (∃ O : List Nat, e = .returned (.agg (numV O)) /\ Num O /\ Dc.valB O = Dc.val (bts s)) /\ Below w.heap.size w w' := by
 have HD : Hid _ := Lib.hid hd
 have R1 : Hid (Row24 ((w.alloc (.cells (numV (List.replicate 24 0)) 117)).alloc (.cells (numV (List.replicate 24 0)) 117)) w.heap.size (List.replicate 24 0)) := Lib.hid ((Row24.new w _ rfl).old _)
 have R2 : Hid (Row24 ((w.alloc (.cells (numV (List.replicate 24 0)) 117)).alloc (.cells (numV (List.replicate 24 0)) 117)) (w.heap.size + 1) (List.replicate 24 0)) := Lib.hid (by
  have := Row24.new (w.alloc (.cells (numV (List.replicate 24 0)) 117)) (List.replicate 24 0) rfl
  rwa [show (w.alloc (.cells (numV (List.replicate 24 0)) 117)).heap.size = w.heap.size + 1 from Array.size_push _] at this)
 have B0 : Hid (Below w.heap.size w ((w.alloc (.cells (numV (List.replicate 24 0)) 117)).alloc (.cells (numV (List.replicate 24 0)) 117))) := Lib.hid (((Below.refl _ w).alloc (Nat.le_refl _) _).alloc (((Below.refl _ w).alloc (Nat.le_refl _) _).size) _)
 clear hd
 go_enter Tryz.func111, Tryz.ntmps111
 go_wp2
 go_loopw [0, 4] (fun t i wr => ∃ (k m : Nat) (S : ByteArray) (O : List Nat), k <= 24 /\ i = .int .i64 (k : Int) /\ t = .string S /\ m <= s.size /\ Hid (m = 0 \/ m + 9 * k = s.size) /\ Hid (bts S = (bts s).take m) /\ S.size <= 216 /\ Hid (S.size = m) /\ Hid (∀ d ∈ O, d < 1000000000) /\ Hid (Dc.val (bts s) = Dc.valB O + 1000000000 ^ k * Dc.val ((bts s).take m)) /\ Hid (O.drop k = (List.replicate 24 0).drop k) /\ Row24 wr w.heap.size (List.replicate 24 0) /\ Row24 wr (w.heap.size + 1) O /\ Below w.heap.size w wr) (fun t _ _ => match t with | .string X => X.size | _ => 0)
 case atStart => exact ⟨0, s.size, s, List.replicate 24 0, Nat.zero_le _, rfl, rfl, Nat.le_refl _, Lib.hid (Or.inr (by omega)), Lib.hid (by rw [<- bts_length, List.take_length]), hs, Lib.hid rfl, Lib.hid Num.zeros.low, Lib.hid (by rw [Dc.valB_zeros, <- bts_length, List.take_length]; simp), Lib.hid rfl, R1.out, R2.out, B0.out⟩
 case round =>
  obtain ⟨k, m, S, O, hk, rfl, rfl, hm, hmk, hS, hSs, hSm, hlow, hval, hdr, hr1, hr2, hB⟩ := hrel
  by_cases hm0 : m = 0
  ·subst hm0
   have hSe : S.toList.isEmpty = true := isEmpty_yes hSm.out
   have hN : Hid (Num O) := Lib.hid ⟨hr2.len, hlow.out⟩
   have hV : Hid (Dc.valB O = Dc.val (bts s)) := Lib.hid (by rw [hval.out]; simp [Dc.val])
   have hl := hr2.len
   have R3 : Hid _ := Lib.hid (hr1.set hl)
   clear hmk hS hlow hval hdr hm
   go_wp2_with (first
    | (refine wp_loadN hr2 rfl _ rfl rfl ?_)
    | (refine wp_storeN hr1 hl rfl _ _ rfl rfl rfl ?_))
   (try simp only [Exit.inBlock, Exit.then]); refine bodyPost_ret (R3.out.result rfl rfl) rfl ?_
   exact ⟨⟨O, rfl, hN.out, hV.out⟩, below_setRow hB (Nat.le_refl _) _⟩
  ·have hmk2 : m + 9 * k = s.size := by have := hmk.out; omega
   have hk' : k < 24 := by omega
   have k0 : (0 : Int) <= (k : Int) := by omega
   have k1 : (k : Int) < 24 := by omega
   have hSe : S.toList.isEmpty = false := isEmpty_no (by have := hSm.out; omega)
   obtain ⟨f, hf⟩ : ∃ f : Nat, f = m - 9 := ⟨_, rfl⟩
   have hmx : max (0 : Int) ((S.size : Int) - 9) = (f : Int) := by have := hSm.out; omega
   have hfS : f <= S.size := by have := hSm.out; omega
   obtain ⟨x1, hx1⟩ : ∃ x, S.extract f S.size = x := ⟨_, rfl⟩
   obtain ⟨x2, hx2⟩ : ∃ x, S.extract 0 f = x := ⟨_, rfl⟩
   have hst := parse_step hS.out hm hf
   have hb1 : bts x1 = (bts S).drop f := by rw [<- hx1, bts_from]
   have hb2 : bts x2 = (bts s).take f := by rw [<- hx2, bts_extract, List.drop_zero, hst.2]
   have hx1s : x1.size = m - f := by rw [<- bts_length, hb1, List.length_drop, bts_length, hSm.out]
   have hx2s : x2.size = f := by rw [<- bts_length, hb2, List.length_take, bts_length]; omega
   have hd1 : (bts x1).all Dc.dig = true := by
    rw [hb1]; refine List.all_eq_true.2 fun c hc => List.all_eq_true.1 HD.out c ?_
    have := List.mem_of_mem_drop hc
    rw [hS.out] at this
    exact List.mem_of_mem_take this
   obtain ⟨v, hv⟩ : ∃ v, Dc.val (bts x1) = v := ⟨_, rfl⟩
   have C : Hid (∀ w, Calls Tryz.prog 129 #[.string x1, .int .i64 10, .int .i64 32] w fun e w' => e = .returned (.tuple #[.int .u64 (v : Int), .nilIface]) /\ Below w.heap.size w w') := Lib.hid (by rw [<- hv]; exact pu_any x1 (by omega) (by omega) hd1)
   have hvl : v < 1000000000 := by
    have h1 := Dc.val_lt hd1
    rw [hv, bts_length] at h1
    have h2 : 10 ^ x1.size <= 10 ^ 9 := Nat.pow_le_pow_right (by decide) (by omega)
    omega
   have f1 := hr2.open (j := k)
   have hzk : O.getD k 0 = 0 := by rw [drop_at hdr.out, List.getD_eq_getElem?_getD, List.getElem?_replicate, if_pos hk']; rfl
   have hval2 : Hid (Dc.val (bts s) = Dc.valB (O.set k v) + 1000000000 ^ (k + 1) * Dc.val ((bts s).take f)) := Lib.hid (by
    have h1 := Dc.valB_set (l := O) (x := v) (by rw [hr2.len]; exact hk')
    rw [hzk, Nat.mul_zero, Nat.add_zero] at h1
    rw [hval.out, h1, hst.1, <- hb1, hv]
    exact parse_sum hf)
   have hlow2 : Hid (∀ d ∈ O.set k v, d < 1000000000) := Lib.hid (fun d hd => by
    rcases List.mem_or_eq_of_mem_set hd with h | h
    ·exact hlow.out d h
    ·rw [h]; exact hvl)
   have hdr2 : Hid ((O.set k v).drop (k + 1) = (List.replicate 24 0).drop (k + 1)) := Lib.hid (drop_step hdr.out)
   have hx2l : x2.size <= 216 := by omega
   have HX2S : Hid _ := Lib.hid hx2s
   have HB2 : Hid _ := Lib.hid hb2
   have hmk3 : Hid (f = 0 \/ f + 9 * (k + 1) = s.size) := Lib.hid (by omega)
   have hfm : f < m := by omega
   have hfs : f <= s.size := by omega
   clear hmk hmk2 hf hst hb1 hb2 hx1s hx2s hd1 hv hzk hlow hval hdr hm0
   go_wp2_with (go_at_call 129; refine (C.out _).mono ?_; rintro e w1 ⟨rfl, hb⟩; have g1 := hr1.keep hb; have g2 := hr2.keep hb; have f2 := g2.open (j := k); have c2 := g2.cell hk'; have HBB : Hid _ := Lib.hid (hB.trans (hb.mono hB.size)))
   go_region
   all_goals go_wp2
   all_goals go_roundw
   case rel => exact ⟨k + 1, f, x2, O.set k v, by omega, rfl, rfl, hfs, hmk3, HB2, hx2l, HX2S, hlow2, hval2, hdr2, (g1.drew _).apart (by omega) k _, (g2.drew _).put k _, (below_drewN HBB.out _).setCell (p := ⟨w.heap.size + 1, k, none⟩) (by show w.heap.size <= w.heap.size + 1; omega) _⟩
   case measure => simp only; rw [HX2S.out, hSm.out]; exact hfm

theorem Pow.keep {w w' : World} (h : Pow w) (hb : Below w.heap.size w w') : Pow w' := by
 unfold Pow Lib.TabIs World.var? at *
 cases hg : Tryz.prog.globalNamed "internal/strconv.uint64pow10" with
 | none => simp [hg] at h
 | some g =>
  simp only [hg, Option.bind_some] at h ⊢
  have hlt : g < w.heap.size := by
   rcases Nat.lt_or_ge g w.heap.size with h' | h'
   ·exact h'
   ·rw [Array.getElem?_eq_none h'] at h; simp at h
  rw [hb.block g hlt]
  exact h
theorem Row24.keepB {W W' : World} {g B : Nat} {l : List Nat} (h : Row24 W g l) (hb : Below B W W') (hg : g < B) : Row24 W' g l := ⟨(hb.block g hg).trans h.row, h.len⟩
theorem repeat_zeros (c : Nat) (hc : c <= 1000) (w : World) : Calls Tryz.prog 99 #[.string ⟨#[48]⟩, .int .i64 (c : Int)] w fun e w' => (∃ r : ByteArray, e = .returned (.string r) /\ bts r = List.replicate c 48) /\ Below w.heap.size w w' := by
 refine (Tryz.strings_Repeat ⟨#[48]⟩ c w (by omega) (by show 1 * c <= _; omega)).mono ?_
 rintro e w' ⟨rfl, hb⟩
 refine ⟨⟨_, rfl, ?_⟩, hb⟩
 have e1 : Lib.repeatL (List.replicate 1 (48 : UInt8)) c = List.replicate (c * 1) 48 := Lib.repeatL_replicate 48 1 c
 show (Lib.repeatL (List.replicate 1 (48 : UInt8)) c).map UInt8.toNat = _
 rw [e1, List.map_replicate, Nat.mul_one]; rfl
theorem strCells_bts (s : ByteArray) : Lib.strCells s = u8s (bts s) := by
 have := strCells_str (bts s) (bts_all s)
 rwa [str_bts] at this
theorem top_pow : top = 10 ^ 216 := by unfold top; decide
theorem drop_low {n : List Nat} (h : Num n) (j : Nat) (hj : j <= 24) : Dc.valB (n.drop j) < top := by
 have h1 := Dc.valB_split n j (by rw [h.len]; exact hj)
 have h2 := valB_low h
 have h3 : 0 < 1000000000 ^ j := Nat.pow_pos (by decide)
 have h4 : 1 * Dc.valB (n.drop j) <= 1000000000 ^ j * Dc.valB (n.drop j) := Nat.mul_le_mul_right _ h3
 omega
theorem digs_low216 {n : List Nat} (h : Num n) (j : Nat) (hj : j <= 24) : (Dc.digs (Dc.valB (n.drop j))).length <= 216 := (Dc.digs_length (by decide)).2 (by rw [<- top_pow]; exact drop_low h j hj)
theorem drop_top {n : List Nat} {k : Nat} (h : Num n) (hk : k < 24) (hv : Dc.valB n = Dc.valB (n.take (k + 1))) : Dc.valB (n.drop k) = n.getD k 0 := by
 have h1 := Dc.valB_split n k (by rw [h.len]; omega)
 rw [hv, Dc.valB_take (by rw [h.len]; exact hk)] at h1
 exact (Nat.eq_of_mul_eq_mul_left (Nat.pow_pos (by decide)) (Nat.add_left_cancel h1)).symm
theorem drop_next {n : List Nat} {j : Nat} (h : Num n) (hj : j < 24) (hne : Dc.valB (n.drop (j + 1)) ≠ 0) : Dc.digs (Dc.valB (n.drop j)) = Dc.digs (Dc.valB (n.drop (j + 1))) ++ Dc.pad 9 (n.getD j 0) /\ Dc.valB (n.drop j) ≠ 0 := by
 have e : Dc.valB (n.drop j) = Dc.valB (n.drop (j + 1)) * 10 ^ 9 + n.getD j 0 := by
  rw [Dc.drop_getD (by rw [h.len]; exact hj), Dc.valB, show (10 : Nat) ^ 9 = 1000000000 from rfl]
  omega
 refine ⟨by rw [e]; exact Dc.digs_pad hne (by decide) (h.at j), ?_⟩
 rw [e]
 have : 0 < Dc.valB (n.drop (j + 1)) * 10 ^ 9 := Nat.mul_pos (Nat.pos_of_ne_zero hne) (Nat.pow_pos (by decide))
 omega

theorem pdigits_any (n : List Nat) (hn : Num n) (w : World) (hP : Pow w) : Calls Tryz.prog 172 #[.agg (numV n)] w fun e w' => (∃ t : ByteArray, e = .returned (.string t) /\ bts t = Dc.digs (Dc.valB n)) /\ Below w.heap.size w w' := by
 have HN : Hid _ := Lib.hid hn
 have HP : Hid _ := Lib.hid hP
 have hr := Row24.new w n hn.len
 have hb0 : Below w.heap.size w (w.alloc (.cells (numV n) 117)) := (Below.refl _ w).alloc (Nat.le_refl _) _
 have hsz : (w.alloc (.cells (numV n) 117)).heap.size = w.heap.size + 1 := Array.size_push _
 obtain ⟨W, hW⟩ : ∃ W, w.alloc (.cells (numV n) 117) = W := ⟨_, rfl⟩
 rw [hW] at hr hb0 hsz
 have HB0 : Hid _ := Lib.hid hb0
 have HSZ : Hid _ := Lib.hid hsz
 clear hn hP hb0 hsz
 go_enter Tryz.func172, Tryz.ntmps172
 go_wp2
 go_loop [3] (fun i => ∃ k : Nat, k <= 23 /\ i = .int .i64 (k : Int) /\ Hid (Dc.valB n = Dc.valB (n.take (k + 1)))) (fun i => (intOf i).toNat)
 case atStart => exact ⟨23, Nat.le_refl _, rfl, Lib.hid (by rw [List.take_of_length_le (by rw [HN.out.len]; exact Nat.le_refl _)])⟩
 case round =>
  obtain ⟨k, hk, rfl, hv⟩ := hrel
  have hk' : k < 24 := by omega
  have k0 : (0 : Int) <= (k : Int) := by omega
  have k1 : (k : Int) < 24 := by omega
  obtain ⟨x, hx⟩ : ∃ x, n.getD k 0 = x := ⟨_, rfl⟩
  have hxl : x < 1000000000 := by rw [<- hx]; exact HN.out.at k
  have c1 := hr.cell hk'
  rw [hx] at c1
  have HX : Hid _ := Lib.hid hx
  clear hx
  by_cases hk0 : k = 0
  ·have d1 : decide (0 < k) = false := decide_eq_false (by omega)
   have HK : Hid (k = 0 \/ x ≠ 0) := Lib.hid (Or.inl hk0)
   clear hk0
   have hr2 : Row24 (W.alloc (.cells #[.pointer none, .slice none 0 0] 99)) w.heap.size n := hr.old _
   have c2 := hr2.cell hk'
   have bl0 : Lib.IsBuilder 99 5 W.heap.size W.heap.size (u8s []) (W.alloc (.cells #[.pointer none, .slice none 0 0] 99)) := .inl ⟨Nat.le_refl _, _, heap_alloc_last W _, ⟨rfl, .inl ⟨rfl, rfl⟩⟩, by simp [Value.ownBlock]⟩
   have bb0 : Below w.heap.size w (W.alloc (.cells #[.pointer none, .slice none 0 0] 99)) := HB0.out.alloc HB0.out.size _
   have bs0 : W.heap.size <= (W.alloc (.cells #[.pointer none, .slice none 0 0] 99)).heap.size := by rw [show (W.alloc (.cells #[.pointer none, .slice none 0 0] 99)).heap.size = W.heap.size + 1 from Array.size_push _]; omega
   rw [HX.out] at c2
   have CF : Hid _ := Lib.hid (fuint_any x (by omega) _ (HP.out.keep bb0))
   have R2 : Hid _ := Lib.hid hr2
   have BL0 : Hid _ := Lib.hid bl0
   have BB0 : Hid _ := Lib.hid bb0
   have BS0 : Hid _ := Lib.hid bs0
   have hdk : Hid (Dc.valB (n.drop k) = x) := Lib.hid (by rw [drop_top HN.out hk' hv.out, HX.out])
   clear hr2 bl0 bb0 bs0 hv
   go_wp2_with (first
    | (go_at_call 192; refine (CF.out).mono ?_; rintro e w1 ⟨⟨t, rfl, ht⟩, hb1⟩; have HT : Hid _ := Lib.hid ht; have htl : t.size <= 216 := (by rw [<- bts_length, ht, <- hdk.out]; exact digs_low216 HN.out k (by omega)); clear ht; have B1 := BB0.out.trans (hb1.mono BB0.out.size); have S1 : W.heap.size <= w1.heap.size := Nat.le_trans BS0.out hb1.size; have R3 := R2.out.keep hb1; have bl1 := builder_below BL0.out hb1)
    | (go_at_call 95; refine (writeString_any W.heap.size W.heap.size _ t _ bl1 (by simp [u8s]; omega) S1).mono ?_; rintro e w2 ⟨rfl, hbl2, hb2⟩; have B2 := B1.trans (hb2.mono (by have := HSZ.out; omega)); have R4 := R3.keepB hb2 (by have := HSZ.out; omega); have S2 : W.heap.size <= w2.heap.size := Nat.le_trans S1 hb2.size; have BL2 : Hid (Lib.IsBuilder 99 5 W.heap.size W.heap.size (u8s (Dc.digs (Dc.valB (n.drop k)))) w2) := Lib.hid (by rw [hdk.out, <- HT.out]; have h := hbl2; rw [strCells_bts] at h; exact .inr h); clear hbl2))
   go_loopw [3] (fun i wr => ∃ (j : Nat) (z : Int), j <= 23 /\ z = (j : Int) - 1 /\ i = .int .i64 z /\ Hid (j = 0 \/ Dc.valB (n.drop j) ≠ 0) /\ Hid (Lib.IsBuilder 99 5 W.heap.size W.heap.size (u8s (Dc.digs (Dc.valB (n.drop j)))) wr) /\ Row24 wr w.heap.size n /\ W.heap.size <= wr.heap.size /\ Below w.heap.size w wr) (fun i _ => (intOf i + 1).toNat)
   case atStart => exact ⟨k, _, hk, rfl, rfl, Lib.hid (by rw [hdk.out]; exact HK.out), BL2, R4, S2, B2⟩
   case round =>
    clear R3 R4 S1 S2 B1 B2 BL2 c1 c2
    obtain ⟨j, z, hj, hz, rfl, hne, hbl, hrr, hsw, hB⟩ := hrel
    by_cases hj0 : j = 0
    ·subst hj0
     obtain rfl : z = -1 := by omega
     have CS : Hid _ := Lib.hid (Tryz.Builder_String_any W.heap.size W.heap.size ((Dc.digs (Dc.valB n)).map UInt8.ofNat) wr (by rw [byteCells_u8 _ (digs_lt _)]; have := hbl.out; rwa [List.drop_zero] at this) hsw)
     clear hz hj hne hbl
     go_wp2_with (go_at_call 68; refine (CS.out).mono ?_; rintro e w3 ⟨rfl, hb3⟩)
     go_ret
     exact ⟨⟨_, rfl, bts_digs _⟩, hB.trans (hb3.mono (by have := HSZ.out; omega))⟩
    ·obtain ⟨i, rfl⟩ : ∃ i, j = i + 1 := ⟨j - 1, by omega⟩
     obtain rfl : z = (i : Int) := by omega
     have hi' : i < 24 := by omega
     have i0 : (0 : Int) <= (i : Int) := by omega
     have i1 : (i : Int) < 24 := by omega
     obtain ⟨y, hy⟩ : ∃ y, n.getD i 0 = y := ⟨_, rfl⟩
     have hyl : y < 1000000000 := by rw [<- hy]; exact HN.out.at i
     have c3 := hrr.cell hi'
     rw [hy] at c3
     have hnx := drop_next HN.out hi' (by have := hne.out; omega)
     have hll := digs_low216 HN.out (i + 1) (by omega)
     rw [hy] at hnx
     obtain ⟨L, hL⟩ : ∃ L, Dc.digs (Dc.valB (n.drop (i + 1))) = L := ⟨_, rfl⟩
     rw [hL] at hnx hbl hll
     have HNX : Hid _ := Lib.hid hnx
     have CF2 : Hid _ := Lib.hid (fuint_any y (by omega) wr (HP.out.keep hB))
     clear hy hL hz hj0 hne hnx
     go_wp2_with (first
      | (go_at_call 192; refine (CF2.out).mono ?_; rintro e w4 ⟨⟨t2, rfl, ht2⟩, hb4⟩; have ht2l : t2.size <= 9 := (by rw [<- bts_length, ht2]; exact (Dc.digs_length (by decide)).2 hyl); obtain ⟨c, hc⟩ : ∃ c : Nat, c + t2.size = 9 := ⟨9 - t2.size, by omega⟩; have hci : (9 : Int) - (t2.size : Int) = (c : Int) := (by omega); have HT2 : Hid _ := Lib.hid ht2; have HC : Hid _ := Lib.hid hc; clear ht2 hc; have B4 := hB.trans (hb4.mono hB.size); have S4 : W.heap.size <= w4.heap.size := Nat.le_trans hsw hb4.size; have R5 := hrr.keep hb4; have bl4 := Lib.hid (builder_below hbl.out hb4))
      | (go_at_call 99; refine (repeat_zeros c (by have := HC.out; omega) _).mono ?_; rintro e w5 ⟨⟨r, rfl, hrz⟩, hb5⟩; have HRZ : Hid _ := Lib.hid hrz; have hrl : r.size <= 9 := (by rw [<- bts_length, hrz, List.length_replicate]; have := HC.out; omega); clear hrz; have B5 := B4.trans (hb5.mono B4.size); have S5 : W.heap.size <= w5.heap.size := Nat.le_trans S4 hb5.size; have R6 := R5.keep hb5; have bl5 := Lib.hid (builder_below bl4.out hb5); obtain ⟨Y, hY⟩ : ∃ Y, r ++ t2 = Y := ⟨_, rfl⟩; have hYb : Hid (bts Y = Dc.pad 9 y) := Lib.hid (by rw [<- hY, str_add, HRZ.out, HT2.out, Dc.pad]; have h1 := HC.out; rw [<- bts_length, HT2.out] at h1; rw [show 9 - (Dc.digs y).length = c by omega]); have hYl : Y.size <= 18 := (by rw [<- bts_length, <- hY, str_add, List.length_append, bts_length, bts_length]; omega))
      | (go_at_call 95; refine (writeString_any W.heap.size W.heap.size _ Y _ bl5.out (by rw [u8s_length]; omega) S5).mono ?_; rintro e w6 ⟨rfl, hbl6, hb6⟩; have B6 := B5.trans (hb6.mono (by have := HSZ.out; omega)); have R7 := R6.keepB hb6 (by have := HSZ.out; omega); have S6 : W.heap.size <= w6.heap.size := Nat.le_trans S5 hb6.size; have BL6 : Hid (Lib.IsBuilder 99 5 W.heap.size W.heap.size (u8s (Dc.digs (Dc.valB (n.drop i)))) w6) := Lib.hid (by rw [HNX.out.1, <- hYb.out, u8s_append, <- strCells_bts]; exact .inr hbl6); clear hbl6))
     go_roundw
     case rel => exact ⟨i, _, by omega, rfl, rfl, Lib.hid (Or.inr HNX.out.2), BL6, R7, S6, B6⟩
     case measure => simp [intOf]
  ·by_cases hx0 : x = 0
   ·obtain ⟨j, rfl⟩ : ∃ j, k = j + 1 := ⟨k - 1, by omega⟩
    have hv2 : Hid (Dc.valB n = Dc.valB (n.take (j + 1))) := Lib.hid (by rw [hv.out, Dc.valB_take (by rw [HN.out.len]; exact hk'), HX.out, hx0, Nat.mul_zero, Nat.add_zero])
    subst hx0
    clear hv hk0
    go_wp2
    go_round
    case rel => exact ⟨j, by omega, by simp, hv2⟩
    case measure => simp [intOf]
   ·have HK : Hid (k = 0 \/ x ≠ 0) := Lib.hid (Or.inr hx0)
    have d2 : ((x : Int) == 0) = false := beq_no hx0
    clear hx0
    have hr2 : Row24 (W.alloc (.cells #[.pointer none, .slice none 0 0] 99)) w.heap.size n := hr.old _
    have c2 := hr2.cell hk'
    have bl0 : Lib.IsBuilder 99 5 W.heap.size W.heap.size (u8s []) (W.alloc (.cells #[.pointer none, .slice none 0 0] 99)) := .inl ⟨Nat.le_refl _, _, heap_alloc_last W _, ⟨rfl, .inl ⟨rfl, rfl⟩⟩, by simp [Value.ownBlock]⟩
    have bb0 : Below w.heap.size w (W.alloc (.cells #[.pointer none, .slice none 0 0] 99)) := HB0.out.alloc HB0.out.size _
    have bs0 : W.heap.size <= (W.alloc (.cells #[.pointer none, .slice none 0 0] 99)).heap.size := by rw [show (W.alloc (.cells #[.pointer none, .slice none 0 0] 99)).heap.size = W.heap.size + 1 from Array.size_push _]; omega
    rw [HX.out] at c2
    have CF : Hid _ := Lib.hid (fuint_any x (by omega) _ (HP.out.keep bb0))
    have R2 : Hid _ := Lib.hid hr2
    have BL0 : Hid _ := Lib.hid bl0
    have BB0 : Hid _ := Lib.hid bb0
    have BS0 : Hid _ := Lib.hid bs0
    have hdk : Hid (Dc.valB (n.drop k) = x) := Lib.hid (by rw [drop_top HN.out hk' hv.out, HX.out])
    clear hr2 bl0 bb0 bs0 hv
    go_wp2_with (first
     | (go_at_call 192; refine (CF.out).mono ?_; rintro e w1 ⟨⟨t, rfl, ht⟩, hb1⟩; have HT : Hid _ := Lib.hid ht; have htl : t.size <= 216 := (by rw [<- bts_length, ht, <- hdk.out]; exact digs_low216 HN.out k (by omega)); clear ht; have B1 := BB0.out.trans (hb1.mono BB0.out.size); have S1 : W.heap.size <= w1.heap.size := Nat.le_trans BS0.out hb1.size; have R3 := R2.out.keep hb1; have bl1 := builder_below BL0.out hb1)
     | (go_at_call 95; refine (writeString_any W.heap.size W.heap.size _ t _ bl1 (by simp [u8s]; omega) S1).mono ?_; rintro e w2 ⟨rfl, hbl2, hb2⟩; have B2 := B1.trans (hb2.mono (by have := HSZ.out; omega)); have R4 := R3.keepB hb2 (by have := HSZ.out; omega); have S2 : W.heap.size <= w2.heap.size := Nat.le_trans S1 hb2.size; have BL2 : Hid (Lib.IsBuilder 99 5 W.heap.size W.heap.size (u8s (Dc.digs (Dc.valB (n.drop k)))) w2) := Lib.hid (by rw [hdk.out, <- HT.out]; have h := hbl2; rw [strCells_bts] at h; exact .inr h); clear hbl2))
    go_loopw [3] (fun i wr => ∃ (j : Nat) (z : Int), j <= 23 /\ z = (j : Int) - 1 /\ i = .int .i64 z /\ Hid (j = 0 \/ Dc.valB (n.drop j) ≠ 0) /\ Hid (Lib.IsBuilder 99 5 W.heap.size W.heap.size (u8s (Dc.digs (Dc.valB (n.drop j)))) wr) /\ Row24 wr w.heap.size n /\ W.heap.size <= wr.heap.size /\ Below w.heap.size w wr) (fun i _ => (intOf i + 1).toNat)
    case atStart => exact ⟨k, _, hk, rfl, rfl, Lib.hid (by rw [hdk.out]; exact HK.out), BL2, R4, S2, B2⟩
    case round =>
     clear R3 R4 S1 S2 B1 B2 BL2 c1 c2
     obtain ⟨j, z, hj, hz, rfl, hne, hbl, hrr, hsw, hB⟩ := hrel
     by_cases hj0 : j = 0
     ·subst hj0
      obtain rfl : z = -1 := by omega
      have CS : Hid _ := Lib.hid (Tryz.Builder_String_any W.heap.size W.heap.size ((Dc.digs (Dc.valB n)).map UInt8.ofNat) wr (by rw [byteCells_u8 _ (digs_lt _)]; have := hbl.out; rwa [List.drop_zero] at this) hsw)
      clear hz hj hne hbl
      go_wp2_with (go_at_call 68; refine (CS.out).mono ?_; rintro e w3 ⟨rfl, hb3⟩)
      go_ret
      exact ⟨⟨_, rfl, bts_digs _⟩, hB.trans (hb3.mono (by have := HSZ.out; omega))⟩
     ·obtain ⟨i, rfl⟩ : ∃ i, j = i + 1 := ⟨j - 1, by omega⟩
      obtain rfl : z = (i : Int) := by omega
      have hi' : i < 24 := by omega
      have i0 : (0 : Int) <= (i : Int) := by omega
      have i1 : (i : Int) < 24 := by omega
      obtain ⟨y, hy⟩ : ∃ y, n.getD i 0 = y := ⟨_, rfl⟩
      have hyl : y < 1000000000 := by rw [<- hy]; exact HN.out.at i
      have c3 := hrr.cell hi'
      rw [hy] at c3
      have hnx := drop_next HN.out hi' (by have := hne.out; omega)
      have hll := digs_low216 HN.out (i + 1) (by omega)
      rw [hy] at hnx
      obtain ⟨L, hL⟩ : ∃ L, Dc.digs (Dc.valB (n.drop (i + 1))) = L := ⟨_, rfl⟩
      rw [hL] at hnx hbl hll
      have HNX : Hid _ := Lib.hid hnx
      have CF2 : Hid _ := Lib.hid (fuint_any y (by omega) wr (HP.out.keep hB))
      clear hy hL hz hj0 hne hnx
      go_wp2_with (first
       | (go_at_call 192; refine (CF2.out).mono ?_; rintro e w4 ⟨⟨t2, rfl, ht2⟩, hb4⟩; have ht2l : t2.size <= 9 := (by rw [<- bts_length, ht2]; exact (Dc.digs_length (by decide)).2 hyl); obtain ⟨c, hc⟩ : ∃ c : Nat, c + t2.size = 9 := ⟨9 - t2.size, by omega⟩; have hci : (9 : Int) - (t2.size : Int) = (c : Int) := (by omega); have HT2 : Hid _ := Lib.hid ht2; have HC : Hid _ := Lib.hid hc; clear ht2 hc; have B4 := hB.trans (hb4.mono hB.size); have S4 : W.heap.size <= w4.heap.size := Nat.le_trans hsw hb4.size; have R5 := hrr.keep hb4; have bl4 := Lib.hid (builder_below hbl.out hb4))
       | (go_at_call 99; refine (repeat_zeros c (by have := HC.out; omega) _).mono ?_; rintro e w5 ⟨⟨r, rfl, hrz⟩, hb5⟩; have HRZ : Hid _ := Lib.hid hrz; have hrl : r.size <= 9 := (by rw [<- bts_length, hrz, List.length_replicate]; have := HC.out; omega); clear hrz; have B5 := B4.trans (hb5.mono B4.size); have S5 : W.heap.size <= w5.heap.size := Nat.le_trans S4 hb5.size; have R6 := R5.keep hb5; have bl5 := Lib.hid (builder_below bl4.out hb5); obtain ⟨Y, hY⟩ : ∃ Y, r ++ t2 = Y := ⟨_, rfl⟩; have hYb : Hid (bts Y = Dc.pad 9 y) := Lib.hid (by rw [<- hY, str_add, HRZ.out, HT2.out, Dc.pad]; have h1 := HC.out; rw [<- bts_length, HT2.out] at h1; rw [show 9 - (Dc.digs y).length = c by omega]); have hYl : Y.size <= 18 := (by rw [<- bts_length, <- hY, str_add, List.length_append, bts_length, bts_length]; omega))
       | (go_at_call 95; refine (writeString_any W.heap.size W.heap.size _ Y _ bl5.out (by rw [u8s_length]; omega) S5).mono ?_; rintro e w6 ⟨rfl, hbl6, hb6⟩; have B6 := B5.trans (hb6.mono (by have := HSZ.out; omega)); have R7 := R6.keepB hb6 (by have := HSZ.out; omega); have S6 : W.heap.size <= w6.heap.size := Nat.le_trans S5 hb6.size; have BL6 : Hid (Lib.IsBuilder 99 5 W.heap.size W.heap.size (u8s (Dc.digs (Dc.valB (n.drop i)))) w6) := Lib.hid (by rw [HNX.out.1, <- hYb.out, u8s_append, <- strCells_bts]; exact .inr hbl6); clear hbl6))
      go_roundw
      case rel => exact ⟨i, _, by omega, rfl, rfl, Lib.hid (Or.inr HNX.out.2), BL6, R7, S6, B6⟩
      case measure => simp [intOf]

theorem Row24.blk {W : World} {g : Nat} {l : List Nat} (h : Row24 W g l) : Blk W g 117 (numV l) := h.row
theorem Row24.far {W W' : World} {g r : Nat} {l : List Nat} (h : Row24 W g l) (hb : W.grownBy W' (some r)) (hr : g ≠ r) : Row24 W' g l := ⟨Blk.far h.blk hb hr, h.len⟩
theorem agg_num {l : List Nat} (h : l.length = 24) : aggT 117 (numV l).size = true := by rw [numV_size, h]; kernel_rfl
theorem numV_oneL (l : List Nat) : (numV l).toList.all (·.oneCell') = true := by rw [Array.all_toList]; exact numV_one l
theorem zero_num : (Tryz.prog.info? 117).bind (·.zero) = some (.agg (numV (List.replicate 24 0))) := by kernel_rfl
theorem pscaled_any (n : Bool) (s : ByteArray) (T m : Nat) (hs : s.size <= 60) (hd : (bts s).all Dc.dig = true) (hT : T <= m) (hm : m <= 120) (w : World) : Calls Tryz.prog 83 #[.agg #[.bool n, .string s, .int .i64 (T : Int)], .int .i64 (m : Int)] w fun e w' => (∃ O : List Nat, e = .returned (.agg (numV O)) /\ Num O /\ Dc.valB O = Dc.val (bts s) * 10 ^ (m - T)) /\ Below w.heap.size w w' := by
 obtain ⟨c, hc⟩ : ∃ c, m - T = c := ⟨_, rfl⟩
 have hci : IntKind.i64.wrap ((m : Int) - (T : Int)) = (c : Int) := by rw [IntKind.wrap_i64]; omega
 have C1 : Hid _ := Lib.hid (repeat_zeros c (by omega))
 have HD : Hid _ := Lib.hid hd
 have HC : Hid _ := Lib.hid hc
 have hcl : c <= 120 := by omega
 rw [hc]
 clear hd hc
 go_enter Tryz.func83, Tryz.ntmps83
 go_wp2_with (first
  | (refine wl_boxA rfl _ rfl rfl (fun W2 b2 hb2 => ?_))
  | (refine wl_allocA rfl zero_num rfl (fun W4 b4 hb4 => ?_); have k2 := b2.keep hb4; have hB := below_step hb2 hb4; have n24 : w.heap.size ≠ W2.heap.size := Nat.ne_of_lt b2.lt; have hsz := hb2.size; have b4' : Row24 W4.drew W2.heap.size (List.replicate 24 0) := ⟨b4, rfl⟩; clear b4 hb2 hb4 b2))
 refine wp_region_held_drew (S := fun W : World => Below w.heap.size w W /\ Blk W w.heap.size 24 #[.bool n, .string s, .int .i64 (T : Int)]) (by kernel_rfl) ⟨below_step hB (below_drew _), k2.drew⟩ (fun hS => ?_)
 refine takeE (i := 0) (d := some 5) (v := ?v1) rfl rfl (Or.inl ⟨by rfl, ?h1⟩) hS ?_
 case h1 => intro W _; go_simp; try with_reducible rfl
 simp only [Act.put, zA, zB, zC]
 refine takeE (i := 1) (d := some 6) (v := .string s) rfl rfl (yields_C rfl (by rfl) (by kernel_rfl) _ rfl (j := 1) rfl rfl (fun W hW => hW.2)) hS ?_
 simp only [Act.put, zA, zB, zC]
 refine takeE (i := 2) (d := some 7) (v := ?v2) rfl rfl (Or.inl ⟨by rfl, ?h2⟩) hS ?_
 case h2 => intro W _; go_simp; try with_reducible rfl
 simp only [Act.put, zA, zB, zC]
 refine takeE (i := 3) (d := some 8) (v := ?v3) rfl rfl (Or.inl ⟨by rfl, ?h3⟩) hS ?_
 case h3 => intro W _; go_simp; try with_reducible rfl
 simp only [Act.put, zA, zB, zC]
 refine takeE (i := 4) (d := some 9) (v := .int .i64 (T : Int)) rfl rfl (yields_C rfl (by rfl) (by kernel_rfl) _ rfl (j := 2) rfl rfl (fun W hW => hW.2)) hS ?_
 simp only [Act.put, zA, zB, zC]
 refine takeE (i := 5) (d := some 10) (v := ?v4) rfl rfl (Or.inl ⟨by rfl, ?h4⟩) hS ?_
 case h4 => intro W _; go_simp; try with_reducible rfl
 simp only [Act.put, zA, zB, zC]
 refine ready1 (i := 6) rfl (fun Kc hKc => ?_)
 go_simp
 refine (C1.out _).mono ?_
 rintro e W5 ⟨⟨r, rfl, hr⟩, hb⟩
 replace b4' := b4'.keep hb
 have hrl : r.size <= 120 := by rw [<- bts_length, hr, List.length_replicate]; omega
 obtain ⟨u, hu⟩ : ∃ u, s ++ r = u := ⟨_, rfl⟩
 have hub : bts u = bts s ++ List.replicate c 48 := by rw [<- hu, str_add, hr]
 have HU : Hid _ := Lib.hid hub
 clear hr hub
 refine hKc.out _ _ ⟨below_step hS.1 hb, hS.2.keep hb⟩ (fun hS => ?_)
 clear hKc Kc
 refine takeE (i := 7) (d := some 12) (v := ?v5) rfl rfl (Or.inl ⟨by rfl, ?h5⟩) hS ?_
 case h5 => intro W _; have hq : ¬ 9223372036854775807 < s.size + r.size := (by omega); go_simp; try with_reducible rfl
 simp only [Act.put, zA, zB, zC]
 refine ready1 (i := 8) rfl (fun Kc hKc => ?_)
 go_simp
 refine (pparse_any u (by rw [<- bts_length, HU.out, List.length_append, bts_length, List.length_replicate]; omega) (by rw [HU.out, List.all_append, HD.out, Dc.zeros_dig]; rfl) _).mono ?_
 rintro e W6 ⟨⟨O, rfl, hO⟩, hb⟩
 replace b4' := b4'.keep hb
 have hOl := hO.1.len
 have HO : Hid _ := Lib.hid hO
 clear hO
 refine hKc.out _ _ ⟨below_step hS.1 hb, hS.2.keep hb⟩ (fun hS => ?_)
 clear hKc Kc
 refine ready1 (i := 9) rfl (fun Kc hKc => ?_)
 refine st_of rfl (wp_storeA b4'.blk _ _ rfl rfl rfl (agg_num hOl) (by rw [numV_size, numV_size, hOl]; rfl) (numV_oneL O) rfl (fun W7 b7 hg => ?_))
 refine hKc.out _ _ ⟨below_far hS.1 hS.1.size (by omega) hg, hS.2.far hg (by omega)⟩ (fun hS => ?_)
 clear hKc Kc
 refine wpAnyH_done (by kernel_rfl) ?_ _
 go_wp2
 refine bodyPost_ret (res_cell rfl b7 (agg_num hOl) rfl) rfl ⟨⟨O, rfl, HO.out.1, by rw [HO.out.2, HU.out, Dc.val_zeros_back]⟩, hS.1⟩
open Go.Ex
set_option maxRecDepth 1000000

theorem zero_dec : (Tryz.prog.info? 24).bind (·.zero) = some (.agg #[.bool false, .string ⟨#[]⟩, .int .i64 0]) := by kernel_rfl
theorem digs_size {u : ByteArray} {x k : Nat} (h : bts u = Dc.digs x) (hx : x < 10 ^ k) (hk : 1 <= k) : u.size <= k := by
 rw [<- bts_length, h]; exact (Dc.digs_length hk).2 hx
theorem digs_all {u : ByteArray} {x : Nat} (h : bts u = Dc.digs x) : (bts u).all Dc.dig = true := by rw [h]; exact Dc.digs_dig x
theorem val_of {u : ByteArray} {x : Nat} (h : bts u = Dc.digs x) : Dc.val (bts u) = x := by rw [h, Dc.val_digs]
theorem scaled_low {s : ByteArray} {c : Nat} (hs : s.size <= 60) (hd : (bts s).all Dc.dig = true) (hc : c <= 60) : Dc.val (bts s) * 10 ^ c < 10 ^ 120 := by
 have h1 := Dc.val_lt hd
 rw [bts_length] at h1
 have h2 : (10 : Nat) ^ s.size <= 10 ^ 60 := Nat.pow_le_pow_right (by decide) hs
 have h3 : (10 : Nat) ^ c <= 10 ^ 60 := Nat.pow_le_pow_right (by decide) hc
 have h4 : Dc.val (bts s) * 10 ^ c <= Dc.val (bts s) * 10 ^ 60 := Nat.mul_le_mul_left _ h3
 have h5 : Dc.val (bts s) * 10 ^ 60 < 10 ^ 60 * 10 ^ 60 := Nat.mul_lt_mul_of_pos_right (Nat.lt_of_lt_of_le h1 h2) (Dc.pow10_pos 60)
 rw [<- Nat.pow_add] at h5
 exact Nat.lt_of_le_of_lt h4 h5
def zs (c : Nat) : ByteArray := str (List.replicate c 48)
theorem zs_bts (c : Nat) : bts (zs c) = List.replicate c 48 := bts_str _ (fun b hb => by rw [List.eq_of_mem_replicate hb]; decide)
theorem zs_size (c : Nat) : (zs c).size = c := by rw [zs, str_size, List.length_replicate]
def zf (s : ByteArray) (c : Nat) : ByteArray := s ++ zs c
theorem zf_bts (s : ByteArray) (c : Nat) : bts (zf s c) = bts s ++ List.replicate c 48 := by rw [zf, str_add, zs_bts]
theorem zf_size (s : ByteArray) (c : Nat) : (zf s c).size = s.size + c := by rw [zf, ByteArray.size_append, zs_size]
theorem zf_val (s : ByteArray) (c : Nat) : Dc.val (bts (zf s c)) = Dc.val (bts s) * 10 ^ c := by rw [zf_bts, Dc.val_zeros_back]
theorem zf_all {s : ByteArray} (h : (bts s).all Dc.dig = true) (c : Nat) : (bts (zf s c)).all Dc.dig = true := by rw [zf_bts, List.all_append, h, Dc.zeros_dig]; rfl
def resL (r : Res) : List Value := [.bool r.n, .string r.s, .int .i64 r.S, .int .i64 r.k]
def resC (r : Res) (l : List Value) : List Value := .bool r.n :: .string r.s :: .int .i64 r.S :: .int .i64 r.k :: l
def Res.val (r : Res) : Value := .tuple #[.agg #[.bool r.n, .string r.s, .int .i64 r.S], .int .i64 r.k]
def ResAt (E : Nat -> Value) (b : Nat) (r : Res) : Prop := E b = .bool r.n /\ E (b + 1) = .string r.s /\ E (b + 2) = .int .i64 r.S /\ E (b + 3) = .int .i64 r.k
def rsV (b : Nat) : V := .tup [deV b, xi (b + 3)]
theorem ResAt.den {E : Nat -> Value} {b : Nat} {r : Res} (h : ResAt E b r) : (rsV b).den L0 E = r.val := by
 obtain ⟨h1, h2, h3, h4⟩ := h
 simp only [rsV, deV, xb, xs, xi, V.den, V.dens, X.evB, X.evS, X.evI, h1, h2, h3, h4, Res.val]
def noV (k : Int) : V := .tup [.agg [.bool false, .str [], it 0], it k]
theorem eq48 (s : ByteArray) : decide (s = Ex.bytes [48]) = decide (bts s = [48]) := decide_eq_decide.2 ⟨fun h => by rw [h]; rfl, fun h => bts_inj (h.trans rfl)⟩
def mxX : X := .mx (.at 3) (.at 6)
theorem mx_nat (a b : Nat) : (if (a : Int) < (b : Int) then (b : Int) else (a : Int)) = ((max a b : Nat) : Int) := by split <;> omega
theorem wsub {a b : Nat} (h : b <= a) (h2 : a <= 1000) : IntKind.i64.wrap (((a : Nat) : Int) - (b : Int)) = ((a - b : Nat) : Int) := by rw [IntKind.wrap_i64]; omega
def sumT (lt : X) (a : Nat) : Tree := .node (.beq (.at 1) (.at 4)) (.leaf (rsV a)) (.node lt (.leaf (rsV (a + 4))) (.leaf (rsV (a + 8))))
theorem sum_at {E : Nat -> Value} {n m : Bool} {u T v S K A B : Nat} {lt : X} {a : Nat} {r1 r2 r3 r : Res} (h1 : E 1 = .bool n) (h4 : E 4 = .bool m) (hlt : lt.evB E = decide (A < B)) (hK : max T S = K) (hA : u * 10 ^ (K - T) = A) (hB : v * 10 ^ (K - S) = B)
  (g1 : ResAt E a r1) (g2 : ResAt E (a + 4) r2) (g3 : ResAt E (a + 8) r3) (e1 : r1 = resOf (Dc.can n (A + B) K)) (e2 : r2 = resOf (Dc.can m (B - A) K)) (e3 : r3 = resOf (Dc.can n (A - B) K)) (hr : resOf (Dc.addD (n, u, T) (m, v, S)) = r) : ((sumT lt a).at E).den L0 E = r.val := by
 have e : (sumT lt a).at E = bif n == m then rsV a else bif decide (A < B) then rsV (a + 4) else rsV (a + 8) := by
  simp only [sumT, Tree.at, X.evB, h1, h4, hlt]
 rw [e]
 by_cases hn : n = m
 ·subst hn
  rw [beq_self_eq_true, cond_true, g1.den, e1, <- hr, Dc.addD_same n u T v S hK hA hB]
 ·have hm : m = !n := by cases n <;> cases m <;> simp_all
  subst hm
  rw [show (n == !n) = false by cases n <;> rfl, cond_false]
  by_cases h : A < B
  ·rw [decide_eq_true h, cond_true, g2.den, e2, <- hr, Dc.addD_lt n u T v S hK hA hB h]
  ·rw [decide_eq_false h, cond_false, g3.den, e3, <- hr, Dc.addD_ge n u T v S hK hA hB (by omega)]
def opT : Tree := .node (.at 1) (.leaf (.agg [.bool false, xs 2, xi 3])) (.node (.seq (.at 2) (.str [48])) (.leaf (.agg [.bool false, xs 2, xi 3])) (.leaf (.agg [.bool true, xs 2, xi 3])))
theorem op_at (n : Bool) (s : ByteArray) (S : Int) : (opT.at (envE [.int .i64 0, .bool n, .string s, .int .i64 S])).den L0 (envE [.int .i64 0, .bool n, .string s, .int .i64 S]) = .agg #[.bool (oppN n s), .string s, .int .i64 S] := by
 have e : opT.at (envE [.int .i64 0, .bool n, .string s, .int .i64 S]) = bif n then .agg [.bool false, xs 2, xi 3] else bif decide (s = Ex.bytes [48]) then .agg [.bool false, xs 2, xi 3] else .agg [.bool true, xs 2, xi 3] := rfl
 rw [e, eq48]
 unfold oppN
 cases n
 ·by_cases h : bts s = [48] <;> simp [h] <;> rfl
 ·rfl
set_option maxRecDepth 1000000

theorem ck_zero (n : Bool) (s : ByteArray) (S : Int) : decide (ckI n s S = 0) = okB n s S := by
 cases h : okB n s S
 ·rw [ck_no h]; rfl
 ·rw [ck_yes h]; rfl
def twT : Tree := .node (.eq (.at 7) (.int 0)) (.node (.eq (.at 8) (.int 0)) (.leaf (rsV 9)) (.leaf (noV 2))) (.leaf (noV 2))
def twP : Fx := [(.eq (.at 7) (.int 0), true), (.eq (.at 8) (.int 0), true)]
def twE (n : Bool) (s : ByteArray) (S : Int) (m : Bool) (t : ByteArray) (U : Int) (r : Res) : List Value := .append [.bool n, .string s, .int .i64 S, .bool m, .string t, .int .i64 U, .int .i64 (ckI n s S), .int .i64 (ckI m t U)] (resC r [.bool (oppN m t)])
theorem tw_of {n m : Bool} {s t : ByteArray} {S U a b : Int} (ha : a = ckI n s S) (hb : b = ckI m t U) (h : decide (a = 0) = true /\ decide (b = 0) = true /\ True) : OkD n s S /\ OkD m t U /\ okB n s S = true /\ okB m t U = true := by
 have h1 := h.1; have h2 := h.2.1
 rw [ha, ck_zero] at h1; rw [hb, ck_zero] at h2
 exact ⟨okB_ok h1, okB_ok h2, h1, h2⟩
theorem tw_at (x : Value) (n : Bool) (s : ByteArray) (S : Int) (m : Bool) (t : ByteArray) (U : Int) (f : Dc.D -> Dc.D -> Option Dc.D) {q r : Res} (hq : resOf (f (rawD n s S) (rawD m t U)) = q) (hr : twoR f n s S m t U = r) : (twT.at (envE (x :: twE n s S m t U q))).den L0 (envE (x :: twE n s S m t U q)) = r.val := by
 have e : twT.at (envE (x :: twE n s S m t U q)) = bif decide (ckI n s S = 0) then bif decide (ckI m t U = 0) then rsV 9 else noV 2 else noV 2 := rfl
 rw [e, ck_zero, ck_zero, <- hr]
 unfold twoR
 cases okB n s S
 ·rfl
 ·cases okB m t U
  ·rfl
  ·rw [if_pos ⟨rfl, rfl⟩, hq]
   exact ResAt.den (b := 9) (r := q) ⟨rfl, rfl, rfl, rfl⟩
def raC (c a : FuncId) : List CallX := [⟨c, [deV 1], [], xi 7⟩, ⟨c, [deV 4], [], xi 8⟩, ⟨a, [deV 1, deV 4], twP, rsV 9⟩]
def rbC (c a o : FuncId) : List CallX := [⟨c, [deV 1], [], xi 7⟩, ⟨c, [deV 4], [], xi 8⟩, ⟨o, [deV 4], [], .agg [xb 13, xs 5, xi 6]⟩, ⟨a, [deV 1, .agg [xb 13, xs 5, xi 6]], twP, rsV 9⟩]
section
variable (n : Bool) (s : ByteArray) (S : Int) (m : Bool) (t : ByteArray) (U : Int) (hs : s.size <= 1000000) (ht : t.size <= 1000000) (r : Res)
include hs ht
end
section
variable (n : Bool) (s : ByteArray) (S : Int) (m : Bool) (t : ByteArray) (U : Int)
end
set_option maxRecDepth 1000000
def dvT : Tree := .node (.eq (.at 7) (.int 0)) (.node (.eq (.at 8) (.int 0)) (.node (.seq (.at 5) (.str [48])) (.leaf (noV 2)) (.node (.lt (.at 10) (.int 0)) (.leaf (noV 2)) (.node (.lt (.int 60) (.at 10)) (.leaf (noV 2)) (.node (.beq (.at 1) (.at 4)) (.leaf (rsV 16)) (.leaf (rsV 20)))))) (.leaf (noV 2))) (.leaf (noV 2))
def dvP : Fx := [(.eq (.at 7) (.int 0), true), (.eq (.at 8) (.int 0), true), (.seq (.at 5) (.str [48]), false), (.lt (.at 10) (.int 0), false), (.lt (.int 60) (.at 10), false)]
theorem dv_at {E : Nat -> Value} {n m : Bool} {s t : ByteArray} {S U K : Int} {r1 r2 : Res} (g : E 1 = .bool n /\ E 4 = .bool m /\ E 5 = .string t /\ E 7 = .int .i64 (ckI n s S) /\ E 8 = .int .i64 (ckI m t U) /\ E 10 = .int .i64 K) (h1 : ResAt E 16 r1) (h2 : ResAt E 20 r2)
  (e1 : 0 <= K -> K <= 60 -> okB n s S = true -> okB m t U = true -> resOf (Dc.can false (Dc.quo (rawD n s S) (rawD m t U) K.toNat) K.toNat) = r1) (e2 : 0 <= K -> K <= 60 -> okB n s S = true -> okB m t U = true -> resOf (Dc.can true (Dc.quo (rawD n s S) (rawD m t U) K.toNat) K.toNat) = r2) {r : Res} (hr : divR n s S m t U K = r) : (dvT.at E).den L0 E = r.val := by
 obtain ⟨g1, g4, g5, g7, g8, g10⟩ := g
 have e : dvT.at E = bif decide (ckI n s S = 0) then bif decide (ckI m t U = 0) then bif decide (t = Ex.bytes [48]) then noV 2 else bif decide (K < 0) then noV 2 else bif decide (60 < K) then noV 2 else bif n == m then rsV 16 else rsV 20 else noV 2 else noV 2 := by
  simp only [dvT, Tree.at, X.evB, X.evI, X.evS, g1, g4, g5, g7, g8, g10]
 rw [e, ck_zero, ck_zero, eq48, <- hr]
 unfold divR
 cases k1 : okB n s S
 ·rfl
 cases k2 : okB m t U
 ·rfl
 by_cases c1 : bts t = [48]
 ·rw [decide_eq_true c1, if_neg (fun h => h.2.2.1 c1)]; rfl
 by_cases c2 : K < 0
 ·rw [decide_eq_false c1, decide_eq_true c2, if_neg (fun h => absurd h.2.2.2.1 (by omega))]; rfl
 by_cases c3 : 60 < K
 ·rw [decide_eq_false c1, decide_eq_false c2, decide_eq_true c3, if_neg (fun h => absurd h.2.2.2.2 (by omega))]; rfl
 rw [decide_eq_false c1, decide_eq_false c2, decide_eq_false c3, if_pos ⟨rfl, rfl, c1, by omega, by omega⟩]
 show (bif n == m then rsV 16 else rsV 20).den L0 E = (resOf (Dc.can (n != m) (Dc.quo (rawD n s S) (rawD m t U) K.toNat) K.toNat)).val
 have q1 := e1 (by omega) (by omega) k1 k2
 have q2 := e2 (by omega) (by omega) k1 k2
 cases n <;> cases m <;> first | (rw [show (_ != _) = false from rfl, q1]; exact h1.den) | (rw [show (_ != _) = true from rfl, q2]; exact h2.den)
theorem dv_of {n m : Bool} {s t : ByteArray} {S U K a b : Int} (ha : a = ckI n s S) (hb : b = ckI m t U) (h : decide (a = 0) = true /\ decide (b = 0) = true /\ decide (t = Ex.bytes [48]) = false /\ decide (K < 0) = false /\ decide (60 < K) = false /\ True) : OkD n s S /\ OkD m t U /\ 0 < Dc.val (bts t) /\ 0 <= K /\ K <= 60 := by
 obtain ⟨h1, h2, h3, h4, h5, _⟩ := h
 obtain ⟨k1, k2, _⟩ := tw_of ha hb ⟨h1, h2, trivial⟩
 rw [eq48] at h3
 have h3 := of_decide_eq_false h3
 exact ⟨k1, k2, Nat.pos_of_ne_zero fun h0 => h3 (by rw [k2.eq, h0]; rfl), by have := of_decide_eq_false h4; omega, by have := of_decide_eq_false h5; omega⟩
def quV (s t : ByteArray) (a b c : Nat) : Nat := Dc.val (bts s) * 10 ^ (a + c) / (Dc.val (bts t) * 10 ^ b)
theorem quo_is (n m : Bool) (s t : ByteArray) (S U K : Int) : Dc.quo (rawD n s S) (rawD m t U) K.toNat = quV s t (max S.toNat U.toNat - S.toNat) (max S.toNat U.toNat - U.toNat) K.toNat := rfl
theorem quV_low {n : Bool} {s t : ByteArray} {S : Int} {a b c : Nat} (k : OkD n s S) (ha : a <= 60) (hc : c <= 60) : quV s t a b c < 10 ^ 180 := by
 have h3 := Dc.val_lt k.dig.all
 rw [bts_length] at h3
 have h4 : Dc.val (bts s) * 10 ^ (a + c) < 10 ^ 60 * 10 ^ 120 := Nat.mul_lt_mul_of_lt_of_le (Nat.lt_of_lt_of_le h3 (Nat.pow_le_pow_right (by decide) k.size)) (Nat.pow_le_pow_right (by decide) (by omega)) (Dc.pow10_pos _)
 rw [<- Nat.pow_add] at h4
 exact Nat.lt_of_le_of_lt (Nat.div_le_self _ _) h4
def lowN (S : Int) : Nat := min S.toNat 60
theorem lowN_eq {S : Int} (h0 : 0 <= S) (h : S <= 60) : ((lowN S : Nat) : Int) = S := by unfold lowN; omega
theorem lowN_le (S : Int) : lowN S <= 60 := by unfold lowN; omega
end Go.Proofs.YthoojcdjjecogaaGreatDoor
