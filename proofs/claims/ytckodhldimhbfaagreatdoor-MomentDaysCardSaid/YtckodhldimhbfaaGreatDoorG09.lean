/-
  Part 9 of the proof: what functions return, and plain facts (Mdate Mspec Mvars Mlen Rsum Radd Rcmp Rdiv Rdtext Rtext). Conditions: each theorem names its own.
-/
import Derived.Test.YtckodhldimhbfaaGreatDoorG05
import Derived.Test.YtckodhldimhbfaaGreatDoorG07
import Derived.Test.YtckodhldimhbfaaGreatDoorG03
import Derived.Test.YtckodhldimhbfaaGreatDoorG08
set_option maxRecDepth 1000000
set_option maxHeartbeats 16000000
namespace Go.Proofs.YtckodhldimhbfaaGreatDoor.Mo

def lg (y : Int) : Int := if (y % 4 = 0 /\ y % 100 ≠ 0) \/ y % 400 = 0 then 1 else 0
theorem lg_01 (y : Int) : lg y = 0 \/ lg y = 1 := by unfold lg; split <;> simp
def dim (y m : Int) : Int := if m = 2 then 28 + lg y else if m = 4 \/ m = 6 \/ m = 9 \/ m = 11 then 30 else 31
theorem dim_bd (y m : Int) : 28 <= dim y m /\ dim y m <= 31 := by
 have := lg_01 y
 unfold dim; split
 ·omega
 ·split <;> omega
def bef (y : Int) : Int := 365 * y + y / 4 - y / 100 + y / 400
theorem bef_succ (y : Int) : bef y = bef (y - 1) + 365 + lg y := by
 unfold bef lg
 split <;> omega
theorem bef_400 (y : Int) : bef (y + 400) = bef y + 146097 := by unfold bef; omega
theorem bef_mono {a b : Int} (h : a <= b) : bef a + 365 * (b - a) <= bef b := by unfold bef; omega
def cum (y m : Int) : Int := (367 * m - 362) / 12 - (if m <= 2 then 0 else 2 - lg y)
theorem cum_one (y : Int) : cum y 1 = 0 := by unfold cum; rw [if_pos (by decide)]; decide
theorem cum_succ (y m : Int) (h1 : 1 <= m) (h2 : m <= 12) : cum y (m + 1) = cum y m + dim y m := by
 have h : m = 1 \/ m = 2 \/ m = 3 \/ m = 4 \/ m = 5 \/ m = 6 \/ m = 7 \/ m = 8 \/ m = 9 \/ m = 10 \/ m = 11 \/ m = 12 := by omega
 rcases h with rfl | rfl | rfl | rfl | rfl | rfl | rfl | rfl | rfl | rfl | rfl | rfl <;> simp [cum, dim] <;> omega
theorem cum_end (y : Int) : cum y 13 = 365 + lg y := by simp [cum]; omega
theorem cum_mono (y m k : Int) (h1 : 1 <= m) (h2 : m < k) (h3 : k <= 13) : cum y m + dim y m <= cum y k := by
 rw [<- cum_succ y m h1 (by omega)]
 have := lg_01 y
 unfold cum
 split <;> split <;> omega
theorem cum_lo (y m : Int) (h1 : 1 <= m) (h2 : m <= 13) : 0 <= cum y m /\ cum y m <= 366 := by
 have := lg_01 y
 unfold cum
 split <;> omega
def dayN (y m d : Int) : Int := bef (y - 1) + cum y m + d - 1
structure IsDate (n y m d : Int) : Prop where
 m1 : 1 <= m
 m2 : m <= 12
 d1 : 1 <= d
 d2 : d <= dim y m
 eq : n = dayN y m d
theorem date_year {n y m d : Int} (h : IsDate n y m d) : bef (y - 1) <= n /\ n < bef y := by
 obtain ⟨h1, h2, h3, h4, h5⟩ := h
 have hl := cum_lo y m h1 (by omega)
 have hs := cum_succ y m h1 h2
 have he := cum_end y
 have hb := bef_succ y
 have hm : cum y (m + 1) <= cum y 13 := by
  rcases (by omega : m + 1 < 13 \/ 13 <= m + 1) with h | h
  ·have := cum_mono y (m + 1) 13 (by omega) h (by omega)
   have := dim_bd y (m + 1); omega
  ·rw [show m + 1 = 13 by omega]; exact Int.le_refl _
 unfold dayN at h5
 omega
theorem date_unique {n y m d y' m' d' : Int} (h : IsDate n y m d) (h' : IsDate n y' m' d') : y = y' /\ m = m' /\ d = d' := by
 have a := date_year h
 have b := date_year h'
 have hy : y = y' := by
  rcases Int.lt_trichotomy y y' with c | c | c
  ·have := bef_mono (a := y) (b := y' - 1) (by omega); omega
  ·exact c
  ·have := bef_mono (a := y') (b := y - 1) (by omega); omega
 subst hy
 obtain ⟨h1, h2, h3, h4, h5⟩ := h
 obtain ⟨g1, g2, g3, g4, g5⟩ := h'
 unfold dayN at h5 g5
 have hm : m = m' := by
  rcases Int.lt_trichotomy m m' with c | c | c
  ·have := cum_mono y m m' h1 c (by omega); omega
  ·exact c
  ·have := cum_mono y m' m g1 c (by omega); omega
 subst hm
 exact ⟨rfl, rfl, by omega⟩
theorem dayN_bd {y m d : Int} (h1 : 1 <= m) (h2 : m <= 12) (h3 : 1 <= d) (h4 : d <= dim y m) : bef (y - 1) <= dayN y m d /\ dayN y m d < bef y := date_year ⟨h1, h2, h3, h4, rfl⟩
def counted (y : Int) : Int := if y < 0 then y + 1 else y
def called (y : Int) : Int := if y < 1 then y - 1 else y
theorem called_counted {y : Int} (h : y ≠ 0) : called (counted y) = y := by unfold called counted; split <;> split <;> omega
theorem counted_called (y : Int) : counted (called y) = y := by unfold called counted; split <;> split <;> omega
theorem called_ne (y : Int) : called y ≠ 0 := by unfold called; split <;> omega
theorem over4 {n : Int} (h : -40000 <= n) : (n + 40000).tdiv 4 - 10000 = n / 4 := by
 rw [Int.tdiv_eq_ediv_of_nonneg (by omega)]; omega
theorem over100 {n : Int} (h : -40000 <= n) : (n + 40000).tdiv 100 - 400 = n / 100 := by
 rw [Int.tdiv_eq_ediv_of_nonneg (by omega)]; omega
theorem over400 {n : Int} (h : -40000 <= n) : (n + 40000).tdiv 400 - 100 = n / 400 := by
 rw [Int.tdiv_eq_ediv_of_nonneg (by omega)]; omega
theorem tdiv_neg' {n d : Int} (_ : n < 0) : n.tdiv d = -((-n).tdiv d) := by rw [Int.neg_tdiv]; omega
theorem start_le {n : Int} (h1 : -4000000 <= n) (h2 : n <= 4000000) : bef ((if n.tdiv 365 < n.tdiv 366 then n.tdiv 365 else n.tdiv 366) - 2) <= n /\ -11000 <= (if n.tdiv 365 < n.tdiv 366 then n.tdiv 365 else n.tdiv 366) - 2 /\ (if n.tdiv 365 < n.tdiv 366 then n.tdiv 365 else n.tdiv 366) - 2 <= 11000 := by
 have key : ∀ q : Int, 366 * q <= n -> 365 * q <= n -> -10960 <= q -> q <= 10960 -> bef (q - 2) <= n /\ -11000 <= q - 2 /\ q - 2 <= 11000 := by
  intro q a b c d
  unfold bef
  omega
 rcases (by omega : 0 <= n \/ n < 0) with h | h
 ·rw [Int.tdiv_eq_ediv_of_nonneg h, Int.tdiv_eq_ediv_of_nonneg h]
  split <;> exact key _ (by omega) (by omega) (by omega) (by omega)
 ·rw [tdiv_neg' h, tdiv_neg' h, Int.tdiv_eq_ediv_of_nonneg (by omega), Int.tdiv_eq_ediv_of_nonneg (by omega)]
  have : bef ((-((-n) / 365)) - 2) <= n := by unfold bef; omega
  split
  ·exact ⟨this, by omega, by omega⟩
  ·have e : (-n) / 366 = (-n) / 365 := by omega
   rw [e]
   exact ⟨this, by omega, by omega⟩
theorem month_some (y n : Int) (h0 : 0 <= n) (h1 : n < 365 + lg y) : ∃ m, 1 <= m /\ m <= 12 /\ cum y m <= n /\ n < cum y m + dim y m := by
 have e := cum_end y
 have c := fun m h1 h2 => cum_succ y m h1 h2
 have c1 := cum_one y
 have q2 := c 1 (by decide) (by decide)
 have q3 := c 2 (by decide) (by decide)
 have q4 := c 3 (by decide) (by decide)
 have q5 := c 4 (by decide) (by decide)
 have q6 := c 5 (by decide) (by decide)
 have q7 := c 6 (by decide) (by decide)
 have q8 := c 7 (by decide) (by decide)
 have q9 := c 8 (by decide) (by decide)
 have q10 := c 9 (by decide) (by decide)
 have q11 := c 10 (by decide) (by decide)
 have q12 := c 11 (by decide) (by decide)
 have q13 := c 12 (by decide) (by decide)
 simp only [Int.reduceAdd] at q2 q3 q4 q5 q6 q7 q8 q9 q10 q11 q12 q13
 by_cases a12 : cum y 12 <= n
 ·exact ⟨12, by decide, by decide, a12, by omega⟩
 by_cases a11 : cum y 11 <= n
 ·exact ⟨11, by decide, by decide, a11, by omega⟩
 by_cases a10 : cum y 10 <= n
 ·exact ⟨10, by decide, by decide, a10, by omega⟩
 by_cases a9 : cum y 9 <= n
 ·exact ⟨9, by decide, by decide, a9, by omega⟩
 by_cases a8 : cum y 8 <= n
 ·exact ⟨8, by decide, by decide, a8, by omega⟩
 by_cases a7 : cum y 7 <= n
 ·exact ⟨7, by decide, by decide, a7, by omega⟩
 by_cases a6 : cum y 6 <= n
 ·exact ⟨6, by decide, by decide, a6, by omega⟩
 by_cases a5 : cum y 5 <= n
 ·exact ⟨5, by decide, by decide, a5, by omega⟩
 by_cases a4 : cum y 4 <= n
 ·exact ⟨4, by decide, by decide, a4, by omega⟩
 by_cases a3 : cum y 3 <= n
 ·exact ⟨3, by decide, by decide, a3, by omega⟩
 by_cases a2 : cum y 2 <= n
 ·exact ⟨2, by decide, by decide, a2, by omega⟩
 ·exact ⟨1, by decide, by decide, by omega, by omega⟩
end Go.Proofs.YtckodhldimhbfaaGreatDoor.Mo
namespace Go.Proofs.YtckodhldimhbfaaGreatDoor
open Go Go.RowKit

structure Mo where
 k : Int
 y : Int
 m : Int
 d : Int
 h : Int
 i : Int
 n : Bool
 s : ByteArray
 S : Int
 z : Bool
 o : Int
namespace Mo
def dateOk (x : Mo) : Prop := x.y ≠ 0 /\ -9999 <= x.y /\ x.y <= 9999 /\ 1 <= x.m /\ x.m <= 12 /\ 1 <= x.d /\ x.d <= dim (counted x.y) x.m
def sixty : ByteArray := ⟨#[54, 48]⟩
def secB (x : Mo) : Bool := okB x.n x.s x.S && (!x.n && decide ((cmpR x.n x.s x.S false sixty 0).1 < 0))
def timeOk (x : Mo) : Prop := secB x = true /\ 0 <= x.h /\ x.h <= 23 /\ 0 <= x.i /\ x.i <= 59
def noDate (x : Mo) : Prop := x.y = 0 /\ x.m = 0 /\ x.d = 0
def noTime (x : Mo) : Prop := x.h = 0 /\ x.i = 0 /\ x.n = false /\ x.s = ⟨#[]⟩ /\ x.S = 0
def Ok (x : Mo) : Prop := (x.k = 1 \/ x.k = 2 \/ x.k = 3) /\ -840 <= x.o /\ x.o <= 840 /\ (x.z = false -> x.o = 0) /\ (if x.k = 2 then noDate x else dateOk x) /\ (if x.k = 1 then noTime x else timeOk x)
instance (x : Mo) : Decidable (Ok x) := by unfold Ok dateOk timeOk noDate noTime; infer_instance
def okB (x : Mo) : Bool := decide (Ok x)
end Mo
end Go.Proofs.YtckodhldimhbfaaGreatDoor
namespace Go.Proofs.YtckodhldimhbfaaGreatDoor
open Go Go.RowKit Go.Ex

def monthLens : List Value := [31, 28, 31, 30, 31, 30, 31, 31, 30, 31, 30, 31].map fun z => Value.int .i64 z
def lenCells : List V := [31, 28, 31, 30, 31, 30, 31, 31, 30, 31, 30, 31].map fun z => .int .i64 z
def powCells : List V := [1, 10, 100, 1000, 10000, 100000, 1000000, 10000000, 100000000, 1000000000, 10000000000, 100000000000, 1000000000000, 10000000000000, 100000000000000, 1000000000000000, 10000000000000000, 100000000000000000, 1000000000000000000, 10000000000000000000].map fun z => .int .u64 z
def VarAt (g : Nat) (cells : List Value) (t : TypeId) (w : World) : Prop := ∃ lo hi, w.heap[g]? = some (.cells cells.toArray t (lo, hi)) /\ (hi <= lo \/ cells.length <= lo)
theorem VarAt.next {g : Nat} {cells : List Value} {t : TypeId} {w w' : World} (h : VarAt g cells t w) (hb : Below w.heap.size w w') : VarAt g cells t w' := by
 obtain ⟨lo, hi, h1, h2⟩ := h
 exact ⟨lo, hi, (hb.block _ (Array.getElem?_eq_some_iff.1 h1).1).trans h1, h2⟩
theorem VarAt.lt {g : Nat} {cells : List Value} {t : TypeId} {w : World} (h : VarAt g cells t w) : g < w.heap.size := by
 obtain ⟨lo, hi, h1, h2⟩ := h
 exact (Array.getElem?_eq_some_iff.1 h1).1
structure Vars (m : Int) (w : World) : Prop where
 row0 : VarAt 1 [.int .i64 m] 3 w
 row1 : VarAt 2 (Lib.pow10Tab.map fun z => Value.int .u64 z) 176 w
 row2 : VarAt 0 monthLens 108 w
theorem Vars.next {m : Int} {w w' : World} (h : Vars m w) (hb : Below w.heap.size w w') : Vars m w' := ⟨h.row0.next hb, h.row1.next hb, h.row2.next hb⟩
def row0 : Row := ⟨[.xi .i64 (.at 0)], 3, 1, false, false, none⟩
def row1 : Row := ⟨powCells, 176, 1, false, false, none⟩
def row2 : Row := ⟨lenCells, 108, 1, false, false, none⟩
noncomputable def h0 : H := ⟨(((T.e : T Row).put 1 (some row0)).put 2 (some row1)).put 0 (some row2), nG, 1000000⟩
noncomputable def keptR (h : H) (g : Nat) (q : Row) : Bool := oB (h.rows.get g) fun r => bB (V.eqbs r.cells q.cells) (bB (!r.opn) (Nat.beq r.elem q.elem))
noncomputable def gd (h : H) : Bool := bB (keptR h 1 row0) (bB (keptR h 2 row1) (keptR h 0 row2))
theorem row_at {E : Nat -> Value} {B : Nat} {L : Ex.Loc} {h : H} {w : World} (hs : Sat E nG B L h w) {g : Nat} (hg : g < nG) {q : Row} (hh : keptR h g q = true) : VarAt g (V.dens L E q.cells) q.elem w := by
 obtain ⟨r, hr, hc⟩ := oB_some hh
 obtain ⟨h1, h2⟩ := bB_true hc
 obtain ⟨h2, h3⟩ := bB_true h2
 obtain ⟨rest, lo, hi, hw, hl, hrest, _⟩ := hs.rows g r hr
 have e : rest = [] := hrest (by simpa using h2)
 rw [e] at hw hl
 rw [hs.glob g hg, List.append_nil, eqbs_eq _ _ h1, Nat.eq_of_beq_eq_true h3] at hw
 rw [eqbs_eq _ _ h1] at hl
 exact ⟨lo, hi, hw, by rw [dens_length]; exact hl⟩
theorem Vars.pow {m : Int} {w : World} (h : Vars m w) : Pow w := by
 obtain ⟨lo', hi', h1, _⟩ := h.row1
 unfold Pow Lib.TabIs World.var?
 rw [show Tryz.prog.globalNamed "internal/strconv.uint64pow10" = some 2 by kernel_rfl, Option.bind_some, h1]
theorem row0_dens {E : Nat -> Value} {L : Ex.Loc} {m : Int} (hE : E 0 = .int .i64 m) : V.dens L E row0.cells = [.int .i64 m] := by simp [row0, V.dens, V.den, X.evI, hE]
theorem gd_good {E : Nat -> Value} {B : Nat} {L : Ex.Loc} {h : H} {w : World} {m : Int} (hE : E 0 = .int .i64 m) (hs : Sat E nG B L h w) (hg : gd h = true) : Vars m w := by
 obtain ⟨h1, h2⟩ := bB_true hg
 obtain ⟨h2, h3⟩ := bB_true h2
 have k1 := row_at hs (by decide) h1
 rw [row0_dens hE] at k1
 exact ⟨k1, row_at hs (by decide) h2, row_at hs (by decide) h3⟩
theorem row_sat {E : Nat -> Value} {L : Ex.Loc} {B n b : Nat} {r : Row} {w : World} (hL : L.ρ b = b) (hb : b < n) (hB : b < B) (hopn : r.opn = false) (hown : r.own = false) (hok : V.oks n r.cells = true) (hone : r.cells.all V.one = true) (hw : VarAt b (V.dens L E r.cells) r.elem w) : RowAt E B L n b r w := by
 obtain ⟨lo, hi, hw, hl⟩ := hw
 rw [dens_length] at hl
 refine ⟨[], lo, hi, ?_, hl, fun _ => rfl, fun h => ?_, hok, hone, hb, ⟨fun h => ?_, fun h => ?_⟩⟩
 ·rw [hL, List.append_nil]; exact hw
 ·rw [hopn] at h; cases h
 ·rw [hown] at h; cases h
 ·rw [hL] at h; omega
theorem start_sat {E : Nat -> Value} {w : World} {m : Int} (hE : E 0 = .int .i64 m) (hV : Vars m w) : Sat E nG w.heap.size L0 h0 w := by
 refine ⟨fun b r hb => ?_, fun b c r s _ _ h => .inl h, Nat.le_refl _, fun _ _ => rfl, Nat.le_refl _⟩
 unfold h0 at hb
 simp only [T.get_put, T.get_e] at hb
 split at hb
 ·rename_i e
  cases hb
  subst e
  exact row_sat rfl (by decide) hV.row2.lt rfl rfl rfl rfl hV.row2
 ·split at hb
  ·rename_i e
   cases hb
   subst e
   exact row_sat rfl (by decide) hV.row1.lt rfl rfl rfl rfl hV.row1
  ·split at hb
   ·rename_i e
    cases hb
    subst e
    refine row_sat rfl (by decide) hV.row0.lt rfl rfl rfl rfl ?_
    rw [row0_dens hE]
    exact hV.row0
   ·cases hb
def moKinds : List Kd := [.i .i64, .i .i64, .i .i64, .i .i64, .i .i64, .i .i64, .b, .s, .i .i64, .b, .i .i64]
def moT : EqTab := [(25, moKinds), (23, deKinds)]
theorem mo_sorted {l : List Value} (h : sorted moKinds l) : ∃ k y m d hh i n s S z o, l = [.int .i64 k, .int .i64 y, .int .i64 m, .int .i64 d, .int .i64 hh, .int .i64 i, .bool n, .string s, .int .i64 S, .bool z, .int .i64 o] := by
 obtain ⟨k, l0, e0, g0⟩ := sorted_i h
 obtain ⟨y, l1, e1, g1⟩ := sorted_i g0
 obtain ⟨m, l2, e2, g2⟩ := sorted_i g1
 obtain ⟨d, l3, e3, g3⟩ := sorted_i g2
 obtain ⟨hh, l4, e4, g4⟩ := sorted_i g3
 obtain ⟨i, l5, e5, g5⟩ := sorted_i g4
 obtain ⟨n, l6, e6, g6⟩ := sorted_b g5
 obtain ⟨s, l7, e7, g7⟩ := sorted_s g6
 obtain ⟨S, l8, e8, g8⟩ := sorted_i g7
 obtain ⟨z, l9, e9, g9⟩ := sorted_b g8
 obtain ⟨o, l10, e10, g10⟩ := sorted_i g9
 exact ⟨_, _, _, _, _, _, _, _, _, _, _, by rw [e0, e1, e2, e3, e4, e5, e6, e7, e8, e9, e10, sorted_n g10]⟩
theorem moT_ok : EqS Tryz.prog moT := by
 refine ⟨fun xs ys h1 h2 w => ⟨Tryz.eqGuardType25, ?_⟩, fun xs ys h1 h2 w => ⟨Tryz.eqGuardType23, ?_⟩, trivial⟩
 ·obtain ⟨k, y, m, d, hh, i, n, s, S, z, o, rfl⟩ := mo_sorted h1
  obtain ⟨k', y', m', d', hh', i', n', s', S', z', o', rfl⟩ := mo_sorted h2
  simp only [valsEq, <- toList_dec]
  simp [go_sem, Op.equal, Op.maxDepth]
  simp only [if_ok, Bool.and_true, beq_dec, lbeq_dec]
 ·obtain ⟨n, s, S, rfl⟩ := de_sorted h1
  obtain ⟨n', s', S', rfl⟩ := de_sorted h2
  simp only [valsEq, <- toList_dec]
  simp [go_sem, Op.equal, Op.maxDepth]
  simp only [if_ok, Bool.and_true, beq_dec, lbeq_dec]
theorem tree_run {calls : List CallX} {env : List Value} {m : Int} {n : Nat} {f : FuncId} {args : List V} {F : Fx} {t : Tree} {w : World} (hr : chk (runTr Tryz.prog nG (fun _ => none) gd moT calls n f args h0) t F = true) (hc : AllX Tryz.prog (envE (.int .i64 m :: env)) (Vars m) calls) (hone : env.all Value.oneCell' = true) (hF : F.Ok (envE (.int .i64 m :: env)))
  (hargs : V.oks nG args = true) (hV : Vars m w) : Calls Tryz.prog f (V.dens L0 (envE (.int .i64 m :: env)) args).toArray w fun e w' => e = .returned ((t.at (envE (.int .i64 m :: env))).den L0 (envE (.int .i64 m :: env))) /\ Below w.heap.size w w' :=
 tree_law (envE_one (by rw [List.all_cons, hone]; rfl)) (by kernel_rfl) noExt hF moT_ok hc (fun L h w' hs hg => gd_good rfl hs hg) hr (start_sat rfl hV) hargs
theorem tree_rv {calls : List CallX} {env : List Value} {m : Int} {n : Nat} {f : FuncId} {args : List V} {F : Fx} {t : Tree} {av : Array Value} {v : Value} {w : World} (hr : chk (runTr Tryz.prog nG (fun _ => none) gd moT calls n f args h0) t F = true) (hc : AllX Tryz.prog (envE (.int .i64 m :: env)) (Vars m) calls) (hone : env.all Value.oneCell' = true) (hF : F.Ok (envE (.int .i64 m :: env)))
  (hargs : V.oks nG args = true) (hav : (V.dens L0 (envE (.int .i64 m :: env)) args).toArray = av) (hv : (t.at (envE (.int .i64 m :: env))).den L0 (envE (.int .i64 m :: env)) = v) (hV : Vars m w) : Calls Tryz.prog f av w fun e w' => e = .returned v /\ Below w.heap.size w w' := by
 rw [<- hv, <- hav]; exact tree_run hr hc hone hF hargs hV
def moV (b : Nat) : V := .agg [xi b, xi (b + 1), xi (b + 2), xi (b + 3), xi (b + 4), xi (b + 5), xb (b + 6), xs (b + 7), xi (b + 8), xb (b + 9), xi (b + 10)]
def moK (k : Int) (b : Nat) : V := .agg [it k, xi (b + 1), xi (b + 2), xi (b + 3), xi (b + 4), xi (b + 5), xb (b + 6), xs (b + 7), xi (b + 8), xb (b + 9), xi (b + 10)]
def Mo.list (x : Mo) : List Value := [.int .i64 x.k, .int .i64 x.y, .int .i64 x.m, .int .i64 x.d, .int .i64 x.h, .int .i64 x.i, .bool x.n, .string x.s, .int .i64 x.S, .bool x.z, .int .i64 x.o]
def Mo.val (x : Mo) : Value := .agg x.list.toArray

def leapT (a b : V) : Tree := .node (.eq (.rem (.at 1) (.int 4)) (.int 0))
 (.node (.eq (.rem (.at 1) (.int 100)) (.int 0)) (.node (.eq (.rem (.at 1) (.int 400)) (.int 0)) (.leaf a) (.leaf b)) (.leaf a))
 (.node (.eq (.rem (.at 1) (.int 400)) (.int 0)) (.leaf a) (.leaf b))
theorem leap_at {E : Nat -> Value} {y : Int} {a b : V} (h : E 1 = .int .i64 y) : (leapT a b).at E = if Mo.lg y = 1 then a else b := by
 have e : ∀ n : Int, n ≠ 0 -> (y.tmod n = 0 ↔ y % n = 0) := fun n _ => by
  rw [<- Int.dvd_iff_tmod_eq_zero, <- Int.dvd_iff_emod_eq_zero]
 have e4 := e 4 (by decide)
 have e100 := e 100 (by decide)
 have e400 := e 400 (by decide)
 simp only [leapT, Tree.at, X.evB, X.evI, h, Mo.lg]
 by_cases h4 : y.tmod 4 = 0 <;> by_cases h100 : y.tmod 100 = 0 <;> by_cases h400 : y.tmod 400 = 0 <;> simp only [h4, h100, h400, decide_true, decide_false, cond_true, cond_false] <;> (split <;> first | rfl | (exfalso; omega))
def lenT (m : Int) : Tree := if m = 2 then leapT (it 29) (it 28) else .leaf (it (if m = 4 \/ m = 6 \/ m = 9 \/ m = 11 then 30 else 31))
theorem run_len : ([1, 2, 3, 4, 5, 6, 7, 8, 9, 10, 11, 12] : List Int).all (fun m => chk (runTr Tryz.prog nG (fun _ => none) gd moT [] 100 35 [xi 1, it m] h0) (lenT m) []) = true := by decide +kernel
theorem run_rlen : ([1, 2, 3, 4, 5, 6, 7, 8, 9, 10, 11, 12] : List Int).all (fun m => chk (runTr Tryz.prog nG (fun _ => none) gd moT [] 100 45 [xi 1, it m] h0) (lenT m) []) = true := by decide +kernel
theorem len_at {E : Nat -> Value} {y m : Int} (h : E 1 = .int .i64 y) (L : Ex.Loc) : ((lenT m).at E).den L E = .int .i64 (Mo.dim y m) := by
 have := Mo.lg_01 y
 unfold lenT Mo.dim
 by_cases h2 : m = 2
 ·rw [if_pos h2, if_pos h2, leap_at h]
  split
  ·rename_i e; rw [e]; rfl
  ·rw [show Mo.lg y = 0 by omega]; rfl
 ·rw [if_neg h2, if_neg h2]; rfl
theorem month_mem {m : Int} (h1 : 1 <= m) (h2 : m <= 12) : m ∈ ([1, 2, 3, 4, 5, 6, 7, 8, 9, 10, 11, 12] : List Int) := by
 simp only [List.mem_cons, List.not_mem_nil, or_false]; omega
theorem plength_is (y m : Int) (h1 : 1 <= m) (h2 : m <= 12) (w : World) (M : Int) (hV : Vars M w) : Calls Tryz.prog 35 #[.int .i64 y, .int .i64 m] w fun e w' => e = .returned (.int .i64 (Mo.dim y m)) /\ Below w.heap.size w w' := by
 have hr := List.all_eq_true.1 run_len m (month_mem h1 h2)
 have h := tree_run (env := [.int .i64 y]) hr trivial rfl trivial rfl hV
 rw [len_at rfl] at h
 exact h
theorem rlength_is (y m : Int) (h1 : 1 <= m) (h2 : m <= 12) (w : World) (M : Int) (hV : Vars M w) : Calls Tryz.prog 45 #[.int .i64 y, .int .i64 m] w fun e w' => e = .returned (.int .i64 (Mo.dim y m)) /\ Below w.heap.size w w' := by
 have hr := List.all_eq_true.1 run_rlen m (month_mem h1 h2)
 have h := tree_run (env := [.int .i64 y]) hr trivial rfl trivial rfl hV
 rw [len_at rfl] at h
 exact h
set_option maxRecDepth 1000000

theorem zero_dec : (Tryz.prog.info? 23).bind (·.zero) = some (.agg #[.bool false, .string ⟨#[]⟩, .int .i64 0]) := by kernel_rfl
theorem rcheck_r (n : Bool) (s : ByteArray) (S : Int) (hs : s.size <= 1000000) (r : Int) (hr : ckI n s S = r) (w : World) : Calls Tryz.prog 41 #[.agg #[.bool n, .string s, .int .i64 S]] w fun e w' => e = .returned (.int .i64 r) /\ Below w.heap.size w w' := by
 rw [<- hr]; exact rcheck_any n s S hs w
theorem rmade_is (neg : Bool) (s : ByteArray) (S : Nat) (hs : s.size <= 1000) (hS : S <= 1000) (h1 : Digs s) (r : Res) (hr : resOf (Dc.can neg (Dc.val (bts s)) S) = r) (w : World) : Calls Tryz.prog 77 #[.bool neg, .string s, .int .i64 (S : Int)] w fun e w' => e = .returned (.tuple #[.agg #[.bool r.n, .string r.s, .int .i64 r.S], .int .i64 r.k]) /\ Below w.heap.size w w' :=
 (rmade_any neg s S hs hS h1 w).mono fun _ _ ⟨he, hb⟩ => ⟨he.trans (made_is hr), hb⟩
theorem digs_size {u : ByteArray} {x k : Nat} (h : bts u = Dc.digs x) (hx : x < 10 ^ k) (hk : 1 <= k) : u.size <= k := by
 rw [<- bts_length, h]; exact (Dc.digs_length hk).2 hx
theorem digs_all {u : ByteArray} {x : Nat} (h : bts u = Dc.digs x) : (bts u).all Dc.dig = true := by rw [h]; exact Dc.digs_dig x
theorem val_of {u : ByteArray} {x : Nat} (h : bts u = Dc.digs x) : Dc.val (bts u) = x := by rw [h, Dc.val_digs]
theorem digs_is {u : ByteArray} {x : Nat} (h : bts u = Dc.digs x) : Digs u := ⟨digs_all h, by rw [h]; exact Dc.digs_ne x⟩
theorem scaled_low {s : ByteArray} {c : Nat} (hs : s.size <= 60) (hd : (bts s).all Dc.dig = true) (hc : c <= 60) : Dc.val (bts s) * 10 ^ c < 10 ^ 120 := by
 have h1 := Dc.val_lt hd
 rw [bts_length] at h1
 have h2 : (10 : Nat) ^ s.size <= 10 ^ 60 := Nat.pow_le_pow_right (by decide) hs
 have h3 : (10 : Nat) ^ c <= 10 ^ 60 := Nat.pow_le_pow_right (by decide) hc
 have h4 : Dc.val (bts s) * 10 ^ c <= Dc.val (bts s) * 10 ^ 60 := Nat.mul_le_mul_left _ h3
 have h5 : Dc.val (bts s) * 10 ^ 60 < 10 ^ 60 * 10 ^ 60 := Nat.mul_lt_mul_of_pos_right (Nat.lt_of_lt_of_le h1 h2) (Dc.pow10_pos 60)
 rw [<- Nat.pow_add] at h5
 exact Nat.lt_of_le_of_lt h4 h5
def zs (c : Nat) : ByteArray := str (List.replicate c 48)
theorem zs_bts (c : Nat) : bts (zs c) = List.replicate c 48 := bts_str _ (fun b hb => by rw [List.eq_of_mem_replicate hb]; decide)
theorem zs_size (c : Nat) : (zs c).size = c := by rw [zs, str_size, List.length_replicate]
def zf (s : ByteArray) (c : Nat) : ByteArray := s ++ zs c
theorem zf_bts (s : ByteArray) (c : Nat) : bts (zf s c) = bts s ++ List.replicate c 48 := by rw [zf, str_add, zs_bts]
theorem zf_size (s : ByteArray) (c : Nat) : (zf s c).size = s.size + c := by rw [zf, ByteArray.size_append, zs_size]
theorem zf_val (s : ByteArray) (c : Nat) : Dc.val (bts (zf s c)) = Dc.val (bts s) * 10 ^ c := by rw [zf_bts, Dc.val_zeros_back]
theorem zf_all {s : ByteArray} (h : (bts s).all Dc.dig = true) (c : Nat) : (bts (zf s c)).all Dc.dig = true := by rw [zf_bts, List.all_append, h, Dc.zeros_dig]; rfl
theorem zf_digs {s : ByteArray} (h : Digs s) (c : Nat) : Digs (zf s c) := ⟨zf_all h.all c, by rw [zf_bts]; simp [h.ne]⟩
theorem rzeros_v (z : Int) (n : Nat) (hz : z = n) (hn : n <= 1000000) (w : World) : Calls Tryz.prog 107 #[.int .i64 z] w fun e w' => e = .returned (.string (zs n)) /\ Below w.heap.size w w' := by
 refine (rzeros_any z n hz hn w).mono ?_
 rintro e w' ⟨⟨t, rfl, rfl⟩, rfl⟩
 exact ⟨rfl, Below.refl _ _⟩
def resL (r : Res) : List Value := [.bool r.n, .string r.s, .int .i64 r.S, .int .i64 r.k]
def resC (r : Res) (l : List Value) : List Value := .bool r.n :: .string r.s :: .int .i64 r.S :: .int .i64 r.k :: l
def Res.val (r : Res) : Value := .tuple #[.agg #[.bool r.n, .string r.s, .int .i64 r.S], .int .i64 r.k]
def ResAt (E : Nat -> Value) (b : Nat) (r : Res) : Prop := E b = .bool r.n /\ E (b + 1) = .string r.s /\ E (b + 2) = .int .i64 r.S /\ E (b + 3) = .int .i64 r.k
def rsV (b : Nat) : V := .tup [deV b, xi (b + 3)]
theorem ResAt.den {E : Nat -> Value} {b : Nat} {r : Res} (h : ResAt E b r) : (rsV b).den L0 E = r.val := by
 obtain ⟨h1, h2, h3, h4⟩ := h
 simp only [rsV, deV, xb, xs, xi, V.den, V.dens, X.evB, X.evS, X.evI, h1, h2, h3, h4, Res.val]
def noV (k : Int) : V := .tup [.agg [.bool false, .str [], it 0], it k]
theorem eq48 (s : ByteArray) : decide (s = Ex.bytes [48]) = decide (bts s = [48]) := decide_eq_decide.2 ⟨fun h => by rw [h]; rfl, fun h => bts_inj (h.trans rfl)⟩
def mxX : X := .mx (.at 3) (.at 6)
theorem mx_nat (a b : Nat) : (if (a : Int) < (b : Int) then (b : Int) else (a : Int)) = ((max a b : Nat) : Int) := by split <;> omega
theorem wsub {a b : Nat} (h : b <= a) (h2 : a <= 1000) : IntKind.i64.wrap (((a : Nat) : Int) - (b : Int)) = ((a - b : Nat) : Int) := by rw [IntKind.wrap_i64]; omega
def sumT (lt : X) (a : Nat) : Tree := .node (.beq (.at 1) (.at 4)) (.leaf (rsV a)) (.node lt (.leaf (rsV (a + 4))) (.leaf (rsV (a + 8))))
theorem sum_at {E : Nat -> Value} {n m : Bool} {u T v S K A B : Nat} {lt : X} {a : Nat} {r1 r2 r3 r : Res} (h1 : E 1 = .bool n) (h4 : E 4 = .bool m) (hlt : lt.evB E = decide (A < B)) (hK : max T S = K) (hA : u * 10 ^ (K - T) = A) (hB : v * 10 ^ (K - S) = B)
  (g1 : ResAt E a r1) (g2 : ResAt E (a + 4) r2) (g3 : ResAt E (a + 8) r3) (e1 : r1 = resOf (Dc.can n (A + B) K)) (e2 : r2 = resOf (Dc.can m (B - A) K)) (e3 : r3 = resOf (Dc.can n (A - B) K)) (hr : resOf (Dc.addD (n, u, T) (m, v, S)) = r) : ((sumT lt a).at E).den L0 E = r.val := by
 have e : (sumT lt a).at E = bif n == m then rsV a else bif decide (A < B) then rsV (a + 4) else rsV (a + 8) := by
  simp only [sumT, Tree.at, X.evB, h1, h4, hlt]
 rw [e]
 by_cases hn : n = m
 ·subst hn
  rw [beq_self_eq_true, cond_true, g1.den, e1, <- hr, Dc.addD_same n u T v S hK hA hB]
 ·have hm : m = !n := by cases n <;> cases m <;> simp_all
  subst hm
  rw [show (n == !n) = false by cases n <;> rfl, cond_false]
  by_cases h : A < B
  ·rw [decide_eq_true h, cond_true, g2.den, e2, <- hr, Dc.addD_lt n u T v S hK hA hB h]
  ·rw [decide_eq_false h, cond_false, g3.den, e3, <- hr, Dc.addD_ge n u T v S hK hA hB (by omega)]
def smC : List CallX := [⟨107, [.xi .i64 (.sub .i64 mxX (.at 3))], [], xs 7⟩, ⟨107, [.xi .i64 (.sub .i64 mxX (.at 6))], [], xs 8⟩]
def smF : Fx := [(.fits (.at 2) (.at 7), true), (.fits (.at 5) (.at 8), true)]
theorem run_same : chk (runTr Tryz.prog nG (fun _ => none) (fun _ => true) deT smC 100 121 [deV 1, deV 4] hN) (.leaf (.tup [.xs (.cat (.at 2) (.at 7)), .xs (.cat (.at 5) (.at 8)), .xi .i64 mxX])) smF = true := by decide +kernel
theorem rsame_any (n : Bool) (s : ByteArray) (T : Nat) (m : Bool) (t : ByteArray) (V M : Nat) (hM : max T V = M) (hs : s.size <= 60) (ht : t.size <= 60) (hT : T <= 60) (hV : V <= 60) (w : World) : Calls Tryz.prog 121 #[.agg #[.bool n, .string s, .int .i64 (T : Int)], .agg #[.bool m, .string t, .int .i64 (V : Int)]] w fun e w' => e = .returned (.tuple #[.string (zf s (M - T)), .string (zf t (M - V)), .int .i64 (M : Int)]) /\ Below w.heap.size w w' := by
 subst hM
 refine tree_nv (env := [.bool n, .string s, .int .i64 (T : Int), .bool m, .string t, .int .i64 (V : Int), .string (zs (max T V - T)), .string (zs (max T V - V))]) run_same ⟨⟨rfl, fk, fun _ L w _ => rzeros_v _ _ ?_ (by omega) w⟩, ⟨rfl, fk, fun _ L w _ => rzeros_v _ _ ?_ (by omega) w⟩, trivial⟩ rfl ⟨decide_eq_true ?_, decide_eq_true ?_, trivial⟩ rfl rfl ?_ (w := w)
 ·show IntKind.i64.wrap ((if (T : Int) < (V : Int) then (V : Int) else (T : Int)) - (T : Int)) = _
  rw [mx_nat, wsub (by omega) (by omega)]
 ·show IntKind.i64.wrap ((if (T : Int) < (V : Int) then (V : Int) else (T : Int)) - (V : Int)) = _
  rw [mx_nat, wsub (by omega) (by omega)]
 ·show s.size + (zs _).size <= _
  rw [zs_size]; omega
 ·show t.size + (zs _).size <= _
  rw [zs_size]; omega
 ·show Value.tuple #[.string (zf s _), .string (zf t _), .int .i64 (if (T : Int) < (V : Int) then (V : Int) else (T : Int))] = _
  rw [mx_nat]
def opT : Tree := .node (.at 1) (.leaf (.agg [.bool false, xs 2, xi 3])) (.node (.seq (.at 2) (.str [48])) (.leaf (.agg [.bool false, xs 2, xi 3])) (.leaf (.agg [.bool true, xs 2, xi 3])))
theorem op_at (n : Bool) (s : ByteArray) (S : Int) : (opT.at (envE [.int .i64 0, .bool n, .string s, .int .i64 S])).den L0 (envE [.int .i64 0, .bool n, .string s, .int .i64 S]) = .agg #[.bool (oppN n s), .string s, .int .i64 S] := by
 have e : opT.at (envE [.int .i64 0, .bool n, .string s, .int .i64 S]) = bif n then .agg [.bool false, xs 2, xi 3] else bif decide (s = Ex.bytes [48]) then .agg [.bool false, xs 2, xi 3] else .agg [.bool true, xs 2, xi 3] := rfl
 rw [e, eq48]
 unfold oppN
 cases n
 ·by_cases h : bts s = [48] <;> simp [h] <;> rfl
 ·rfl
theorem rrun_opp : chk (runTr Tryz.prog nG (fun _ => none) (fun _ => true) deT [] 100 124 [deV 1] hN) opT [] = true := by decide +kernel
theorem ropp_any (n : Bool) (s : ByteArray) (S : Int) (w : World) : Calls Tryz.prog 124 #[.agg #[.bool n, .string s, .int .i64 S]] w fun e w' => e = .returned (.agg #[.bool (oppN n s), .string s, .int .i64 S]) /\ Below w.heap.size w w' :=
 tree_nv (env := [.bool n, .string s, .int .i64 S]) rrun_opp trivial rfl trivial rfl rfl (op_at n s S)
def ruC : List CallX := [⟨121, [deV 1, deV 4], [], .tup [xs 7, xs 8, xi 9]⟩, ⟨154, [xs 7, xs 8], [], xs 10⟩, ⟨122, [xs 7, xs 8], [], xb 11⟩, ⟨155, [xs 8, xs 7], [(.at 11, true)], xs 12⟩, ⟨155, [xs 7, xs 8], [(.at 11, false)], xs 13⟩,
 ⟨77, [xb 1, xs 10, xi 9], [], rsV 14⟩, ⟨77, [xb 4, xs 12, xi 9], [], rsV 18⟩, ⟨77, [xb 1, xs 13, xi 9], [], rsV 22⟩]
theorem run_rsum : chk (runTr Tryz.prog nG (fun _ => none) (fun _ => true) deT ruC 100 123 [deV 1, deV 4] hN) (sumT (.at 11) 14) [] = true := by decide +kernel
theorem rmade_v (neg : Bool) (x S : Nat) (hx : x < 10 ^ 200) (hS : S <= 1000) {u : ByteArray} (hu : str (Dc.digs x) = u) {r : Res} (hr : resOf (Dc.can neg x S) = r) (w : World) : Calls Tryz.prog 77 #[.bool neg, .string u, .int .i64 (S : Int)] w fun e w' => e = .returned r.val /\ Below w.heap.size w w' := by
 subst hu
 exact rmade_is neg (str (Dc.digs x)) S (Nat.le_trans (digs_size (bts_digs x) hx (by decide)) (by decide)) hS (digs_is (bts_digs x)) r (by rw [val_of (bts_digs x)]; exact hr) w
theorem rsum_is (n : Bool) (s : ByteArray) (S : Int) (m : Bool) (t : ByteArray) (U : Int) (k1 : OkD n s S) (k2 : OkD m t U) (w : World) : Calls Tryz.prog 123 #[.agg #[.bool n, .string s, .int .i64 S], .agg #[.bool m, .string t, .int .i64 U]] w fun e w' => e = .returned (resOf (Dc.addD (rawD n s S) (rawD m t U))).val /\ Below w.heap.size w w' := by
 obtain ⟨T, rfl⟩ : ∃ T : Nat, S = T := ⟨S.toNat, by have := k1.low; omega⟩
 obtain ⟨V, rfl⟩ : ∃ V : Nat, U = V := ⟨U.toNat, by have := k2.low; omega⟩
 have hT : T <= 60 := by have := k1.high; omega
 have hV : V <= 60 := by have := k2.high; omega
 have z1 := k1.size
 have z2 := k2.size
 obtain ⟨K, hK⟩ : ∃ K, max T V = K := ⟨_, rfl⟩
 have hA := zf_val s (K - T)
 have hB := zf_val t (K - V)
 obtain ⟨A, eA⟩ : ∃ A, Dc.val (bts (zf s (K - T))) = A := ⟨_, rfl⟩
 obtain ⟨B, eB⟩ : ∃ B, Dc.val (bts (zf t (K - V))) = B := ⟨_, rfl⟩
 have lA : A < 10 ^ 120 := by rw [<- eA, hA]; exact scaled_low z1 k1.dig.all (by omega)
 have lB : B < 10 ^ 120 := by rw [<- eB, hB]; exact scaled_low z2 k2.dig.all (by omega)
 have l0 : (10 : Nat) ^ 120 + 10 ^ 120 <= 10 ^ 200 := by decide +kernel
 have dA := zf_digs k1.dig (K - T)
 have dB := zf_digs k2.dig (K - V)
 have sA := zf_size s (K - T)
 have sB := zf_size t (K - V)
 obtain ⟨x1, h1⟩ : ∃ x, str (Dc.digs (A + B)) = x := ⟨_, rfl⟩
 obtain ⟨x2, h2⟩ : ∃ x, str (Dc.digs (B - A)) = x := ⟨_, rfl⟩
 obtain ⟨x3, h3⟩ : ∃ x, str (Dc.digs (A - B)) = x := ⟨_, rfl⟩
 obtain ⟨r1, g1⟩ : ∃ r, resOf (Dc.can n (A + B) K) = r := ⟨_, rfl⟩
 obtain ⟨r2, g2⟩ : ∃ r, resOf (Dc.can m (B - A) K) = r := ⟨_, rfl⟩
 obtain ⟨r3, g3⟩ : ∃ r, resOf (Dc.can n (A - B) K) = r := ⟨_, rfl⟩
 obtain ⟨y, hy⟩ : ∃ y, zf s (K - T) = y := ⟨_, rfl⟩
 obtain ⟨z, hz⟩ : ∃ z, zf t (K - V) = z := ⟨_, rfl⟩
 obtain ⟨b, hb⟩ : ∃ b, decide (A < B) = b := ⟨_, rfl⟩
 have C := rsame_any n s T m t V K hK z1 z2 hT hV
 rw [hy] at dA sA eA C
 rw [hz] at dB sB eB C
 refine tree_nv (env := .append [.bool n, .string s, .int .i64 (T : Int), .bool m, .string t, .int .i64 (V : Int), .string y, .string z, .int .i64 (K : Int), .string x1, .bool b, .string x2, .string x3] (resC r1 (resC r2 (resL r3)))) run_rsum ?_ rfl trivial rfl rfl (sum_at (n := n) (m := m) (A := A) (B := B) rfl rfl hb.symm hK (hA.symm.trans (hy ▸ eA)) (hB.symm.trans (hz ▸ eB)) (r1 := r1) (r2 := r2) (r3 := r3) ⟨rfl, rfl, rfl, rfl⟩ ⟨rfl, rfl, rfl, rfl⟩ ⟨rfl, rfl, rfl, rfl⟩ g1.symm g2.symm g3.symm rfl) (w := w)
 refine ⟨⟨rfl, fk, fun _ L w _ => C w⟩, ⟨rfl, fk, fun _ L w _ => ?_⟩, ⟨rfl, fk, fun _ L w _ => ?_⟩, ⟨rfl, fk, fun hp L w _ => ?_⟩, ⟨rfl, fk, fun hp L w _ => ?_⟩,
   ⟨rfl, fk, fun _ L w _ => rmade_v n (A + B) K (by omega) (by omega) h1 g1 w⟩, ⟨rfl, fk, fun _ L w _ => rmade_v m (B - A) K (by omega) (by omega) h2 g2 w⟩, ⟨rfl, fk, fun _ L w _ => rmade_v n (A - B) K (by omega) (by omega) h3 g3 w⟩, trivial⟩
 ·refine (rplus_any y z (by omega) (by omega) dA dB w).mono ?_
  rintro e w' ⟨⟨r, rfl, rfl⟩, hb⟩
  rw [eA, eB, h1]
  exact ⟨rfl, hb⟩
 ·refine (rless_any y z (by omega) (by omega) dA dB w).mono ?_
  rintro e w' ⟨rfl, rfl⟩
  rw [eA, eB, hb]
  exact ⟨rfl, Below.refl _ _⟩
 ·have h : b = true := hp.1
  have h := of_decide_eq_true (hb.trans h)
  refine (rminus_any z y (by omega) (by omega) dB dA (by omega) w).mono ?_
  rintro e w' ⟨⟨r, rfl, rfl⟩, hb⟩
  rw [eA, eB, h2]
  exact ⟨rfl, hb⟩
 ·have h : b = false := hp.1
  have h := of_decide_eq_false (hb.trans h)
  refine (rminus_any y z (by omega) (by omega) dA dB (by omega) w).mono ?_
  rintro e w' ⟨⟨r, rfl, rfl⟩, hb⟩
  rw [eA, eB, h3]
  exact ⟨rfl, hb⟩
set_option maxRecDepth 1000000

theorem ck_zero (n : Bool) (s : ByteArray) (S : Int) : decide (ckI n s S = 0) = okB n s S := by
 cases h : okB n s S
 ·rw [ck_no h]; rfl
 ·rw [ck_yes h]; rfl
def twT : Tree := .node (.eq (.at 7) (.int 0)) (.node (.eq (.at 8) (.int 0)) (.leaf (rsV 9)) (.leaf (noV 2))) (.leaf (noV 2))
def twP : Fx := [(.eq (.at 7) (.int 0), true), (.eq (.at 8) (.int 0), true)]
def twE (n : Bool) (s : ByteArray) (S : Int) (m : Bool) (t : ByteArray) (U : Int) (r : Res) : List Value := .append [.bool n, .string s, .int .i64 S, .bool m, .string t, .int .i64 U, .int .i64 (ckI n s S), .int .i64 (ckI m t U)] (resC r [.bool (oppN m t)])
theorem tw_of {n m : Bool} {s t : ByteArray} {S U a b : Int} (ha : a = ckI n s S) (hb : b = ckI m t U) (h : decide (a = 0) = true /\ decide (b = 0) = true /\ True) : OkD n s S /\ OkD m t U /\ okB n s S = true /\ okB m t U = true := by
 have h1 := h.1; have h2 := h.2.1
 rw [ha, ck_zero] at h1; rw [hb, ck_zero] at h2
 exact ⟨okB_ok h1, okB_ok h2, h1, h2⟩
theorem tw_at (x : Value) (n : Bool) (s : ByteArray) (S : Int) (m : Bool) (t : ByteArray) (U : Int) (f : Dc.D -> Dc.D -> Option Dc.D) {q r : Res} (hq : resOf (f (rawD n s S) (rawD m t U)) = q) (hr : twoR f n s S m t U = r) : (twT.at (envE (x :: twE n s S m t U q))).den L0 (envE (x :: twE n s S m t U q)) = r.val := by
 have e : twT.at (envE (x :: twE n s S m t U q)) = bif decide (ckI n s S = 0) then bif decide (ckI m t U = 0) then rsV 9 else noV 2 else noV 2 := rfl
 rw [e, ck_zero, ck_zero, <- hr]
 unfold twoR
 cases okB n s S
 ·rfl
 ·cases okB m t U
  ·rfl
  ·rw [if_pos ⟨rfl, rfl⟩, hq]
   exact ResAt.den (b := 9) (r := q) ⟨rfl, rfl, rfl, rfl⟩
def raC (c a : FuncId) : List CallX := [⟨c, [deV 1], [], xi 7⟩, ⟨c, [deV 4], [], xi 8⟩, ⟨a, [deV 1, deV 4], twP, rsV 9⟩]
def rbC (c a o : FuncId) : List CallX := [⟨c, [deV 1], [], xi 7⟩, ⟨c, [deV 4], [], xi 8⟩, ⟨o, [deV 4], [], .agg [xb 13, xs 5, xi 6]⟩, ⟨a, [deV 1, .agg [xb 13, xs 5, xi 6]], twP, rsV 9⟩]
theorem run_radd : chk (runTr Tryz.prog nG (fun _ => none) (fun _ => true) deT (raC 41 123) 100 94 [deV 1, deV 4] hN) twT [] = true := by decide +kernel
theorem run_rsub : chk (runTr Tryz.prog nG (fun _ => none) (fun _ => true) deT (rbC 41 123 124) 100 95 [deV 1, deV 4] hN) twT [] = true := by decide +kernel
section
variable (n : Bool) (s : ByteArray) (S : Int) (m : Bool) (t : ByteArray) (U : Int) (hs : s.size <= 1000000) (ht : t.size <= 1000000) (r : Res)
include hs ht
theorem radd_is (hr : twoR Dc.addD n s S m t U = r) (w : World) : Calls Tryz.prog 94 #[.agg #[.bool n, .string s, .int .i64 S], .agg #[.bool m, .string t, .int .i64 U]] w fun e w' => e = .returned (.tuple #[.agg #[.bool r.n, .string r.s, .int .i64 r.S], .int .i64 r.k]) /\ Below w.heap.size w w' := by
 obtain ⟨q, hq⟩ : ∃ q, resOf (Dc.addD (rawD n s S) (rawD m t U)) = q := ⟨_, rfl⟩
 refine tree_nv (env := twE n s S m t U q) run_radd ?_ rfl trivial rfl rfl (tw_at _ n s S m t U Dc.addD hq hr)
 refine ⟨⟨rfl, fk, fun _ L w _ => rcheck_r n s S hs _ rfl w⟩, ⟨rfl, fk, fun _ L w _ => rcheck_r m t U ht _ rfl w⟩, ⟨rfl, fk, fun hp L w _ => ?_⟩, trivial⟩
 obtain ⟨k1, k2, _⟩ := tw_of rfl rfl hp
 have h := rsum_is n s S m t U k1 k2 w
 rw [hq] at h
 exact h
theorem rsub_is (hr : twoR Dc.subD n s S m t U = r) (w : World) : Calls Tryz.prog 95 #[.agg #[.bool n, .string s, .int .i64 S], .agg #[.bool m, .string t, .int .i64 U]] w fun e w' => e = .returned (.tuple #[.agg #[.bool r.n, .string r.s, .int .i64 r.S], .int .i64 r.k]) /\ Below w.heap.size w w' := by
 obtain ⟨q, hq⟩ : ∃ q, resOf (Dc.subD (rawD n s S) (rawD m t U)) = q := ⟨_, rfl⟩
 refine tree_nv (env := twE n s S m t U q) run_rsub ?_ rfl trivial rfl rfl (tw_at _ n s S m t U Dc.subD hq hr)
 refine ⟨⟨rfl, fk, fun _ L w _ => rcheck_r n s S hs _ rfl w⟩, ⟨rfl, fk, fun _ L w _ => rcheck_r m t U ht _ rfl w⟩, ⟨rfl, fk, fun _ L w _ => ropp_any m t U w⟩, ⟨rfl, fk, fun hp L w _ => ?_⟩, trivial⟩
 obtain ⟨k1, k2, _, h2⟩ := tw_of rfl rfl hp
 have h := rsum_is n s S (oppN m t) t U k1 (okB_ok (opp_okB k2)) w
 rw [<- opp_raw k2, show Dc.addD (rawD n s S) (Dc.opp (rawD m t U)) = Dc.subD (rawD n s S) (rawD m t U) from rfl, hq] at h
 exact h
end

theorem rless_ord (r : Bool) (X Y : Nat) (hr : decide (X < Y) = r) (s t : ByteArray) (hs : s.size <= 120) (ht : t.size <= 120) (h1 : Digs s) (h2 : Digs t) (hX : Dc.val (bts s) = X) (hY : Dc.val (bts t) = Y) (w : World) : Calls Tryz.prog 122 #[.string s, .string t] w fun e w' => e = .returned (.bool r) /\ Below w.heap.size w w' := by
 refine (rless_any s t (by omega) (by omega) h1 h2 w).mono ?_
 rintro e w' ⟨rfl, rfl⟩
 subst hX; subst hY
 exact ⟨by rw [hr], Below.refl _ _⟩
def cmA (b : Bool) (i : Nat) : V := .agg [.bool b, xs (i + 1), xi (i + 2)]
def cmN : List CallX := [⟨41, [deV 1], [], xi 7⟩, ⟨41, [deV 4], [], xi 8⟩]
def cmNo1 : Fx := [(.eq (.at 7) (.int 0), false)]
def cmNo2 : Fx := [(.eq (.at 7) (.int 0), true), (.eq (.at 8) (.int 0), false)]
def cmC (b c : Bool) : List CallX := [⟨41, [cmA b 1], [], it 0⟩, ⟨41, [cmA c 4], [], it 0⟩, ⟨121, [cmA b 1, cmA c 4], [], .tup [xs 9, xs 10, xi 11]⟩, ⟨122, [xs 9, xs 10], [], xb 12⟩]
def cmL (b : Bool) : Tree := .node (.beq (.at 12) (.tt b)) (.leaf (.tup [it 1, it 0])) (.leaf (.tup [it (-1), it 0]))
def cmT (b c : Bool) : Tree := bif b == c then .node (.seq (.at 2) (.at 5)) (.node (.eq (.at 3) (.at 6)) (.leaf (.tup [it 0, it 0])) (cmL b)) (cmL b) else .leaf (.tup [it (bif b then -1 else 1), it 0])
theorem run_cmpNo1 : chk (runTr Tryz.prog nG (fun _ => none) (fun _ => true) deT cmN 100 90 [deV 1, deV 4] hN) (.leaf (.tup [it 0, it 2])) cmNo1 = true := by decide +kernel
theorem run_cmpNo2 : chk (runTr Tryz.prog nG (fun _ => none) (fun _ => true) deT cmN 100 90 [deV 1, deV 4] hN) (.leaf (.tup [it 0, it 2])) cmNo2 = true := by decide +kernel
theorem run_cmp : ∀ b c : Bool, chk (runTr Tryz.prog nG (fun _ => none) (fun _ => true) deT (cmC b c) 100 90 [cmA b 1, cmA c 4] hN) (cmT b c) [] = true := by decide +kernel
def cmE (n : Bool) (s : ByteArray) (S : Int) (m : Bool) (t : ByteArray) (U : Int) : List Value := [.bool n, .string s, .int .i64 S, .bool m, .string t, .int .i64 U, .int .i64 (ckI n s S), .int .i64 (ckI m t U), .string (zf s (max S.toNat U.toNat - S.toNat)), .string (zf t (max S.toNat U.toNat - U.toNat)), .int .i64 ((max S.toNat U.toNat : Nat) : Int),
 .bool (decide (Dc.val (bts s) * 10 ^ (max S.toNat U.toNat - S.toNat) < Dc.val (bts t) * 10 ^ (max S.toNat U.toNat - U.toNat)))]
section
variable (n : Bool) (s : ByteArray) (S : Int) (m : Bool) (t : ByteArray) (U : Int)
theorem cmN_ok (hs : s.size <= 1000000) (ht : t.size <= 1000000) : AllX Tryz.prog (envE (.int .i64 0 :: cmE n s S m t U)) (fun _ => True) cmN :=
 ⟨⟨rfl, fk, fun _ L w _ => rcheck_r n s S hs _ rfl w⟩, ⟨rfl, fk, fun _ L w _ => rcheck_r m t U ht _ rfl w⟩, trivial⟩
theorem rCmp_no (hs : s.size <= 1000000) (ht : t.size <= 1000000) (h : ¬ (okB n s S = true /\ okB m t U = true)) (w : World) : Calls Tryz.prog 90 #[.agg #[.bool n, .string s, .int .i64 S], .agg #[.bool m, .string t, .int .i64 U]] w fun e w' => e = .returned (.tuple #[.int .i64 0, .int .i64 2]) /\ Below w.heap.size w w' := by
 cases h1 : okB n s S with
 | false => exact tree_none (env := cmE n s S m t U) run_cmpNo1 (cmN_ok n s S m t U hs ht) rfl ⟨by show decide (ckI n s S = 0) = false; rw [ck_no h1]; rfl, trivial⟩ rfl
 | true =>
  cases h2 : okB m t U with
  | false => exact tree_none (env := cmE n s S m t U) run_cmpNo2 (cmN_ok n s S m t U hs ht) rfl ⟨by show decide (ckI n s S = 0) = true; rw [ck_yes h1]; rfl, by show decide (ckI m t U = 0) = false; rw [ck_no h2]; rfl, trivial⟩ rfl
  | true => exact absurd ⟨h1, h2⟩ h
theorem cmC_ok (k1 : OkD n s S) (k2 : OkD m t U) (h1 : okB n s S = true) (h2 : okB m t U = true) : AllX Tryz.prog (envE (.int .i64 0 :: cmE n s S m t U)) (fun _ => True) (cmC n m) := by
 have e1 : ((S.toNat : Nat) : Int) = S := Int.toNat_of_nonneg k1.low
 have e2 : ((U.toNat : Nat) : Int) = U := Int.toNat_of_nonneg k2.low
 have hS : S.toNat <= 60 := by have := k1.high; omega
 have hU : U.toNat <= 60 := by have := k2.high; omega
 have hsm : ∀ w : World, Calls Tryz.prog 121 #[.agg #[.bool n, .string s, .int .i64 S], .agg #[.bool m, .string t, .int .i64 U]] w fun e w' => e = .returned (.tuple #[.string (zf s (max S.toNat U.toNat - S.toNat)), .string (zf t (max S.toNat U.toNat - U.toNat)), .int .i64 ((max S.toNat U.toNat : Nat) : Int)]) /\ Below w.heap.size w w' := fun w => by
  have q := rsame_any n s S.toNat m t U.toNat _ rfl k1.size k2.size hS hU w
  rw [e1, e2] at q
  exact q
 have l1 := zf_size s (max S.toNat U.toNat - S.toNat)
 have l2 := zf_size t (max S.toNat U.toNat - U.toNat)
 have z1 := k1.size
 have z2 := k2.size
 exact ⟨⟨rfl, fk, fun _ L w _ => rcheck_r n s S (by omega) _ (ck_yes h1) w⟩, ⟨rfl, fk, fun _ L w _ => rcheck_r m t U (by omega) _ (ck_yes h2) w⟩,
  ⟨rfl, fk, fun _ L w _ => hsm w⟩,
  ⟨rfl, fk, fun _ L w _ => rless_ord _ _ _ rfl _ _ (by omega) (by omega) (zf_digs k1.dig _) (zf_digs k2.dig _) (zf_val _ _) (zf_val _ _) w⟩, trivial⟩
theorem cmT_at (k1 : OkD n s S) (k2 : OkD m t U) : ((cmT n m).at (envE (.int .i64 0 :: cmE n s S m t U))).den L0 (envE (.int .i64 0 :: cmE n s S m t U)) = .tuple #[.int .i64 (Dc.cmpD (rawD n s S) (rawD m t U)), .int .i64 0] := by
 have hl : ∀ b : Bool, ((cmL b).at (envE (.int .i64 0 :: cmE n s S m t U))).den L0 (envE (.int .i64 0 :: cmE n s S m t U)) = .tuple #[.int .i64 (bif decide (Dc.val (bts s) * 10 ^ (max S.toNat U.toNat - S.toNat) < Dc.val (bts t) * 10 ^ (max S.toNat U.toNat - U.toNat)) == b then 1 else -1), .int .i64 0] := fun b => by
  have e : (cmL b).at (envE (.int .i64 0 :: cmE n s S m t U)) = bif decide (Dc.val (bts s) * 10 ^ (max S.toNat U.toNat - S.toNat) < Dc.val (bts t) * 10 ^ (max S.toNat U.toNat - U.toNat)) == b then .tup [it 1, it 0] else .tup [it (-1), it 0] := rfl
  rw [e]
  cases (decide (Dc.val (bts s) * 10 ^ (max S.toNat U.toNat - S.toNat) < Dc.val (bts t) * 10 ^ (max S.toNat U.toNat - U.toNat)) == b) <;> rfl
 have he : n = m -> ((cmT n m).at (envE (.int .i64 0 :: cmE n s S m t U))).den L0 (envE (.int .i64 0 :: cmE n s S m t U)) = if s = t /\ S = U then .tuple #[.int .i64 0, .int .i64 0] else ((cmL n).at (envE (.int .i64 0 :: cmE n s S m t U))).den L0 (envE (.int .i64 0 :: cmE n s S m t U)) := fun h => by
  subst h
  unfold cmT
  rw [beq_self_eq_true, cond_true]
  have e : ∀ a b : Tree, (Tree.node (.seq (.at 2) (.at 5)) a b).at (envE (.int .i64 0 :: cmE n s S n t U)) = bif decide (s = t) then a.at (envE (.int .i64 0 :: cmE n s S n t U)) else b.at (envE (.int .i64 0 :: cmE n s S n t U)) := fun _ _ => rfl
  have e3 : ∀ a b : Tree, (Tree.node (.eq (.at 3) (.at 6)) a b).at (envE (.int .i64 0 :: cmE n s S n t U)) = bif decide (S = U) then a.at (envE (.int .i64 0 :: cmE n s S n t U)) else b.at (envE (.int .i64 0 :: cmE n s S n t U)) := fun _ _ => rfl
  rw [e, e3]
  by_cases h1 : s = t
  ·rw [decide_eq_true h1, cond_true]
   by_cases h2 : S = U
   ·rw [decide_eq_true h2, cond_true, if_pos ⟨h1, h2⟩]; rfl
   ·rw [decide_eq_false h2, cond_false, if_neg (fun q => h2 q.2)]
  ·rw [decide_eq_false h1, cond_false, if_neg (fun q => h1 q.1)]
 have c0 : ¬ (n = m /\ s = t /\ S = U) -> Dc.cmpD (rawD n s S) (rawD m t U) ≠ 0 := fun hn h => hn (by
  have h := Dc.cmpD_eq k1.can k2.can h
  have e1 : n = m := congrArg (·.1) h
  have e2 : Dc.val (bts s) = Dc.val (bts t) := congrArg (·.2.1) h
  have e3 : S.toNat = U.toNat := congrArg (·.2.2) h
  refine ⟨e1, bts_inj (by rw [k1.eq, k2.eq, e2]), ?_⟩
  have := k1.low; have := k2.low; omega)
 by_cases hnm : n = m
 ·subst hnm
  rw [he rfl]
  by_cases hq : s = t /\ S = U
  ·rw [if_pos hq]
   obtain ⟨rfl, rfl⟩ := hq
   rw [Dc.cmpD_self]
  ·rw [if_neg hq, hl]
   have c1 := c0 (fun h => hq h.2)
   cases n
   ·rw [show Dc.cmpD (rawD false s S) (rawD false t U) = _ from Dc.cmpD_pos _ _ _ _ rfl rfl rfl] at c1 ⊢
    unfold Dc.ord at c1 ⊢
    by_cases hlt : Dc.val (bts s) * 10 ^ (max S.toNat U.toNat - S.toNat) < Dc.val (bts t) * 10 ^ (max S.toNat U.toNat - U.toNat)
    ·rw [if_pos hlt, decide_eq_true hlt]; rfl
    ·rw [if_neg hlt] at c1 ⊢
     split at c1
     ·rename_i hgt; rw [if_pos hgt, decide_eq_false hlt]; rfl
     ·exact absurd rfl c1
   ·rw [show Dc.cmpD (rawD true s S) (rawD true t U) = _ from Dc.cmpD_neg _ _ _ _ rfl rfl rfl] at c1 ⊢
    unfold Dc.ord at c1 ⊢
    by_cases hlt : Dc.val (bts s) * 10 ^ (max S.toNat U.toNat - S.toNat) < Dc.val (bts t) * 10 ^ (max S.toNat U.toNat - U.toNat)
    ·rw [if_pos hlt, decide_eq_true hlt]; rfl
    ·rw [if_neg hlt] at c1 ⊢
     split at c1
     ·rename_i hgt; rw [if_pos hgt, decide_eq_false hlt]; rfl
     ·exact absurd rfl c1
 ·cases n <;> cases m
  ·exact absurd rfl hnm
  ·rw [Dc.cmpD_pn k1.can k2.can rfl rfl]; rfl
  ·rw [Dc.cmpD_np k1.can k2.can rfl rfl]; rfl
  ·exact absurd rfl hnm
theorem rcmp_is (hs : s.size <= 1000000) (ht : t.size <= 1000000) (z k : Int) (hr : cmpR n s S m t U = (z, k)) (w : World) : Calls Tryz.prog 90 #[.agg #[.bool n, .string s, .int .i64 S], .agg #[.bool m, .string t, .int .i64 U]] w fun e w' => e = .returned (.tuple #[.int .i64 z, .int .i64 k]) /\ Below w.heap.size w w' := by
 unfold cmpR at hr
 by_cases h : okB n s S = true /\ okB m t U = true
 ·rw [if_pos h] at hr; cases hr
  have q := tree_none (env := cmE n s S m t U) (run_cmp n m) (cmC_ok n s S m t U (okB_ok h.1) (okB_ok h.2) h.1 h.2) rfl trivial rfl (w := w)
  rw [cmT_at n s S m t U (okB_ok h.1) (okB_ok h.2)] at q
  exact q
 ·rw [if_neg h] at hr; cases hr
  exact rCmp_no n s S m t U hs ht h w
end
set_option maxRecDepth 1000000
def dvT : Tree := .node (.eq (.at 7) (.int 0)) (.node (.eq (.at 8) (.int 0)) (.node (.seq (.at 5) (.str [48])) (.leaf (noV 2)) (.node (.lt (.at 10) (.int 0)) (.leaf (noV 2)) (.node (.lt (.int 60) (.at 10)) (.leaf (noV 2)) (.node (.beq (.at 1) (.at 4)) (.leaf (rsV 16)) (.leaf (rsV 20)))))) (.leaf (noV 2))) (.leaf (noV 2))
def dvP : Fx := [(.eq (.at 7) (.int 0), true), (.eq (.at 8) (.int 0), true), (.seq (.at 5) (.str [48]), false), (.lt (.at 10) (.int 0), false), (.lt (.int 60) (.at 10), false)]
theorem dv_at {E : Nat -> Value} {n m : Bool} {s t : ByteArray} {S U K : Int} {r1 r2 : Res} (g : E 1 = .bool n /\ E 4 = .bool m /\ E 5 = .string t /\ E 7 = .int .i64 (ckI n s S) /\ E 8 = .int .i64 (ckI m t U) /\ E 10 = .int .i64 K) (h1 : ResAt E 16 r1) (h2 : ResAt E 20 r2)
  (e1 : 0 <= K -> K <= 60 -> okB n s S = true -> okB m t U = true -> resOf (Dc.can false (Dc.quo (rawD n s S) (rawD m t U) K.toNat) K.toNat) = r1) (e2 : 0 <= K -> K <= 60 -> okB n s S = true -> okB m t U = true -> resOf (Dc.can true (Dc.quo (rawD n s S) (rawD m t U) K.toNat) K.toNat) = r2) {r : Res} (hr : divR n s S m t U K = r) : (dvT.at E).den L0 E = r.val := by
 obtain ⟨g1, g4, g5, g7, g8, g10⟩ := g
 have e : dvT.at E = bif decide (ckI n s S = 0) then bif decide (ckI m t U = 0) then bif decide (t = Ex.bytes [48]) then noV 2 else bif decide (K < 0) then noV 2 else bif decide (60 < K) then noV 2 else bif n == m then rsV 16 else rsV 20 else noV 2 else noV 2 := by
  simp only [dvT, Tree.at, X.evB, X.evI, X.evS, g1, g4, g5, g7, g8, g10]
 rw [e, ck_zero, ck_zero, eq48, <- hr]
 unfold divR
 cases k1 : okB n s S
 ·rfl
 cases k2 : okB m t U
 ·rfl
 by_cases c1 : bts t = [48]
 ·rw [decide_eq_true c1, if_neg (fun h => h.2.2.1 c1)]; rfl
 by_cases c2 : K < 0
 ·rw [decide_eq_false c1, decide_eq_true c2, if_neg (fun h => absurd h.2.2.2.1 (by omega))]; rfl
 by_cases c3 : 60 < K
 ·rw [decide_eq_false c1, decide_eq_false c2, decide_eq_true c3, if_neg (fun h => absurd h.2.2.2.2 (by omega))]; rfl
 rw [decide_eq_false c1, decide_eq_false c2, decide_eq_false c3, if_pos ⟨rfl, rfl, c1, by omega, by omega⟩]
 show (bif n == m then rsV 16 else rsV 20).den L0 E = (resOf (Dc.can (n != m) (Dc.quo (rawD n s S) (rawD m t U) K.toNat) K.toNat)).val
 have q1 := e1 (by omega) (by omega) k1 k2
 have q2 := e2 (by omega) (by omega) k1 k2
 cases n <;> cases m <;> first | (rw [show (_ != _) = false from rfl, q1]; exact h1.den) | (rw [show (_ != _) = true from rfl, q2]; exact h2.den)
theorem dv_of {n m : Bool} {s t : ByteArray} {S U K a b : Int} (ha : a = ckI n s S) (hb : b = ckI m t U) (h : decide (a = 0) = true /\ decide (b = 0) = true /\ decide (t = Ex.bytes [48]) = false /\ decide (K < 0) = false /\ decide (60 < K) = false /\ True) : OkD n s S /\ OkD m t U /\ 0 < Dc.val (bts t) /\ 0 <= K /\ K <= 60 := by
 obtain ⟨h1, h2, h3, h4, h5, _⟩ := h
 obtain ⟨k1, k2, _⟩ := tw_of ha hb ⟨h1, h2, trivial⟩
 rw [eq48] at h3
 have h3 := of_decide_eq_false h3
 exact ⟨k1, k2, Nat.pos_of_ne_zero fun h0 => h3 (by rw [k2.eq, h0]; rfl), by have := of_decide_eq_false h4; omega, by have := of_decide_eq_false h5; omega⟩
def quV (s t : ByteArray) (a b c : Nat) : Nat := Dc.val (bts s) * 10 ^ (a + c) / (Dc.val (bts t) * 10 ^ b)
theorem quo_is (n m : Bool) (s t : ByteArray) (S U K : Int) : Dc.quo (rawD n s S) (rawD m t U) K.toNat = quV s t (max S.toNat U.toNat - S.toNat) (max S.toNat U.toNat - U.toNat) K.toNat := rfl
theorem quV_low {n : Bool} {s t : ByteArray} {S : Int} {a b c : Nat} (k : OkD n s S) (ha : a <= 60) (hc : c <= 60) : quV s t a b c < 10 ^ 180 := by
 have h3 := Dc.val_lt k.dig.all
 rw [bts_length] at h3
 have h4 : Dc.val (bts s) * 10 ^ (a + c) < 10 ^ 60 * 10 ^ 120 := Nat.mul_lt_mul_of_lt_of_le (Nat.lt_of_lt_of_le h3 (Nat.pow_le_pow_right (by decide) k.size)) (Nat.pow_le_pow_right (by decide) (by omega)) (Dc.pow10_pos _)
 rw [<- Nat.pow_add] at h4
 exact Nat.lt_of_le_of_lt (Nat.div_le_self _ _) h4
def rvC : List CallX := [⟨41, [deV 1], [], xi 7⟩, ⟨41, [deV 4], [], xi 8⟩, ⟨121, [deV 1, deV 4], twP, .tup [xs 9, xs 12, xi 13]⟩, ⟨107, [xi 10], [(.lt (.at 10) (.int 0), false), (.lt (.int 60) (.at 10), false)], xs 14⟩, ⟨125, [.xs (.cat (.at 9) (.at 14)), xs 12], dvP, .tup [xs 11, xs 15]⟩,
 ⟨77, [.bool false, xs 11, xi 10], dvP, rsV 16⟩, ⟨77, [.bool true, xs 11, xi 10], dvP, rsV 20⟩]
theorem run_rdiv : chk (runTr Tryz.prog nG (fun _ => none) (fun _ => true) deT rvC 100 96 [deV 1, deV 4, xi 10] hN) dvT [(.fits (.at 9) (.at 14), true)] = true := by decide +kernel
def lowN (S : Int) : Nat := min S.toNat 60
theorem lowN_eq {S : Int} (h0 : 0 <= S) (h : S <= 60) : ((lowN S : Nat) : Int) = S := by unfold lowN; omega
theorem lowN_le (S : Int) : lowN S <= 60 := by unfold lowN; omega
theorem rdiv_is (n : Bool) (s : ByteArray) (S : Int) (m : Bool) (t : ByteArray) (U : Int) (K : Int) (hs : s.size <= 1000000) (ht : t.size <= 1000000) (r : Res) (hr : divR n s S m t U K = r) (w : World) : Calls Tryz.prog 96 #[.agg #[.bool n, .string s, .int .i64 S], .agg #[.bool m, .string t, .int .i64 U], .int .i64 K] w fun e w' => e = .returned (.tuple #[.agg #[.bool r.n, .string r.s, .int .i64 r.S], .int .i64 r.k]) /\ Below w.heap.size w w' := by
 have l1 := lowN_le S; have l2 := lowN_le U; have l3 := lowN_le K
 obtain ⟨y, hy⟩ : ∃ y, zf s (max (lowN S) (lowN U) - lowN S) = y := ⟨_, rfl⟩
 obtain ⟨z, hz⟩ : ∃ z, zf t (max (lowN S) (lowN U) - lowN U) = z := ⟨_, rfl⟩
 obtain ⟨q, hq⟩ : ∃ q, quV s t (max (lowN S) (lowN U) - lowN S) (max (lowN S) (lowN U) - lowN U) (lowN K) = q := ⟨_, rfl⟩
 obtain ⟨p, hp'⟩ : ∃ p, str (Dc.digs q) = p := ⟨_, rfl⟩
 obtain ⟨o, ho⟩ : ∃ o, str (Dc.digs (Dc.val (bts (zf y (lowN K))) % Dc.val (bts z))) = o := ⟨_, rfl⟩
 obtain ⟨r1, g1⟩ : ∃ r, resOf (Dc.can false q (lowN K)) = r := ⟨_, rfl⟩
 obtain ⟨r2, g2⟩ : ∃ r, resOf (Dc.can true q (lowN K)) = r := ⟨_, rfl⟩
 have sy := zf_size s (max (lowN S) (lowN U) - lowN S)
 have sz := zf_size t (max (lowN S) (lowN U) - lowN U)
 rw [hy] at sy; rw [hz] at sz
 have eN : ∀ {S : Int}, 0 <= S -> S <= 60 -> S.toNat = lowN S := fun h0 h1 => by have := lowN_eq h0 h1; omega
 have back : 0 <= K -> K <= 60 -> okB n s S = true -> okB m t U = true -> Dc.quo (rawD n s S) (rawD m t U) K.toNat = q /\ K.toNat = lowN K := fun a b c d => by
  have k1 := okB_ok c; have k2 := okB_ok d
  rw [quo_is, eN a b, eN k1.low k1.high, eN k2.low k2.high]
  exact ⟨hq, rfl⟩
 refine tree_nv (env := .append [.bool n, .string s, .int .i64 S, .bool m, .string t, .int .i64 U, .int .i64 (ckI n s S), .int .i64 (ckI m t U), .string y, .int .i64 K, .string p, .string z, .int .i64 ((max (lowN S) (lowN U) : Nat) : Int), .string (zs (lowN K)), .string o] (resC r1 (resL r2))) run_rdiv ?_ rfl ⟨decide_eq_true ?_, trivial⟩ rfl rfl
  (dv_at (n := n) (m := m) (s := s) (t := t) (S := S) (U := U) (K := K) (r1 := r1) (r2 := r2) ⟨rfl, rfl, rfl, rfl, rfl, rfl⟩ ⟨rfl, rfl, rfl, rfl⟩ ⟨rfl, rfl, rfl, rfl⟩ (fun a b c d => by rw [(back a b c d).1, (back a b c d).2]; exact g1) (fun a b c d => by rw [(back a b c d).1, (back a b c d).2]; exact g2) hr) (w := w)
 ·refine ⟨⟨rfl, fk, fun _ L w _ => rcheck_r n s S hs _ rfl w⟩, ⟨rfl, fk, fun _ L w _ => rcheck_r m t U ht _ rfl w⟩, ⟨rfl, fk, fun hp L w _ => ?_⟩, ⟨rfl, fk, fun hp L w _ => ?_⟩, ⟨rfl, fk, fun hp L w _ => ?_⟩, ⟨rfl, fk, fun hp L w _ => ?_⟩, ⟨rfl, fk, fun hp L w _ => ?_⟩, trivial⟩
  ·obtain ⟨k1, k2, _⟩ := tw_of rfl rfl hp
   have h := rsame_any n s (lowN S) m t (lowN U) _ rfl k1.size k2.size l1 l2 w
   rw [lowN_eq k1.low k1.high, lowN_eq k2.low k2.high, hy, hz] at h
   exact h
  ·have h1 := of_decide_eq_false (show decide (K < 0) = false from hp.1)
   have h2 := of_decide_eq_false (show decide (60 < K) = false from hp.2.1)
   exact rzeros_v K (lowN K) (lowN_eq (by omega) (by omega)).symm (by omega) w
  ·obtain ⟨k1, k2, hv, c1, c2⟩ := dv_of (n := n) (m := m) (s := s) (t := t) (S := S) (U := U) (K := K) rfl rfl hp
   have dy := zf_digs k1.dig (max (lowN S) (lowN U) - lowN S)
   have dz := zf_digs k2.dig (max (lowN S) (lowN U) - lowN U)
   have vy := zf_val s (max (lowN S) (lowN U) - lowN S)
   have vz := zf_val t (max (lowN S) (lowN U) - lowN U)
   rw [hy] at dy vy; rw [hz] at dz vz
   have a1 := k1.size; have a2 := k2.size
   refine (rover_any (zf y (lowN K)) z (by rw [zf_size]; omega) (by omega) (zf_digs dy _) dz (by rw [vz]; exact Nat.mul_pos hv (Dc.pow10_pos _)) w).mono ?_
   rintro e w' ⟨⟨q', r', rfl, rfl, rfl⟩, hb⟩
   rw [ho, zf_val, vy, vz, Nat.mul_assoc, <- Nat.pow_add]
   refine ⟨?_, hb⟩
   show Ending.returned (.tuple #[.string (str (Dc.digs (quV s t _ _ (lowN K)))), _]) = .returned (.tuple #[.string p, .string o])
   rw [hq, hp']
  ·obtain ⟨k1, k2, hv, c1, c2⟩ := dv_of (n := n) (m := m) (s := s) (t := t) (S := S) (U := U) (K := K) rfl rfl hp
   have h := rmade_v false q (lowN K) (Nat.lt_trans (by rw [<- hq]; exact quV_low k1 (by omega) l3) (by decide +kernel)) (by omega) hp' g1 w
   rw [lowN_eq c1 c2] at h
   exact h
  ·obtain ⟨k1, k2, hv, c1, c2⟩ := dv_of (n := n) (m := m) (s := s) (t := t) (S := S) (U := U) (K := K) rfl rfl hp
   have h := rmade_v true q (lowN K) (Nat.lt_trans (by rw [<- hq]; exact quV_low k1 (by omega) l3) (by decide +kernel)) (by omega) hp' g2 w
   rw [lowN_eq c1 c2] at h
   exact h
 ·show y.size + (zs _).size <= _
  rw [zs_size]; omega
end Go.Proofs.YtckodhldimhbfaaGreatDoor
namespace Go.Proofs.YtckodhldimhbfaaGreatDoor
open Go Go.RowKit
namespace Dc
theorem whole_part (l : List Nat) : (l = whole l /\ part l = []) \/ l = whole l ++ 46 :: part l := by
 unfold whole part
 have h := List.takeWhile_append_dropWhile (p := fun c => decide (c ≠ 46)) (l := l)
 cases hd : l.dropWhile (fun c => decide (c ≠ 46)) with
 | nil => rw [hd, List.append_nil] at h; exact .inl ⟨h.symm, rfl⟩
 | cons c r =>
  have hc : c = 46 := by
   have := List.head?_dropWhile_not (fun c => decide (c ≠ 46)) l
   rw [hd] at this
   simpa using this
  rw [hd, hc] at h
  exact .inr h.symm
theorem takeWhile_all {p : Nat -> Bool} : ∀ {l : List Nat} {c : Nat}, c ∈ l.takeWhile p -> p c = true
 | [], _, h => by simp at h
 | x :: l, c, h => by
  rw [List.takeWhile_cons] at h
  split at h
  ·rename_i hp
   rcases List.mem_cons.1 h with rfl | h
   ·exact hp
   ·exact takeWhile_all h
  ·cases h
theorem whole_ne (l : List Nat) : ∀ c ∈ whole l, c ≠ 46 := fun c hc => by
 have := takeWhile_all (l := l) hc
 simpa using this
theorem whole_part_length (l : List Nat) : (whole l ++ part l).length <= l.length := by
 rcases whole_part l with ⟨h1, h2⟩ | h
 ·rw [<- h1, h2, List.append_nil]; exact Nat.le_refl _
 ·have := congrArg List.length h
  rw [List.length_append, List.length_cons] at this
  rw [List.length_append]; omega
theorem whole_length (l : List Nat) : (whole l).length <= l.length := by
 have := whole_part_length l
 rw [List.length_append] at this; omega
theorem whole_at {l : List Nat} (h : (whole l).length < l.length) : l.getD (whole l).length 0 = 46 /\ l.take (whole l).length = whole l /\ l.drop ((whole l).length + 1) = part l /\ l.length = (whole l).length + 1 + (part l).length := by
 rcases whole_part l with ⟨h1, _⟩ | h1
 ·rw [<- h1] at h; omega
 ·generalize whole l = W at *
  generalize part l = Q at *
  subst h1
  refine ⟨?_, ?_, ?_, ?_⟩
  ·rw [List.getD_eq_getElem?_getD, List.getElem?_append_right (Nat.le_refl _)]; simp
  ·rw [List.take_left']; rfl
  ·rw [<- List.drop_drop, List.drop_left']; rfl; rfl
  ·rw [List.length_append, List.length_cons]; omega
theorem whole_lt {l : List Nat} {k : Nat} (h : k < (whole l).length) : l.getD k 0 ≠ 46 := by
 have h1 : l.getD k 0 = (whole l).getD k 0 := by
  rcases whole_part l with ⟨h1, _⟩ | h1
  ·rw [<- h1]
  ·rw [List.getD_eq_getElem?_getD, List.getD_eq_getElem?_getD]
   conv => lhs; rw [h1]
   rw [List.getElem?_append_left h]
 rw [h1, List.getD_eq_getElem?_getD, List.getElem?_eq_getElem h]
 exact whole_ne l _ (List.getElem_mem h)
theorem whole_all {l : List Nat} (h : (whole l).length = l.length) : whole l = l /\ part l = [] := by
 rcases whole_part l with ⟨h1, h2⟩ | h1
 ·exact ⟨h1.symm, h2⟩
 ·have := congrArg List.length h1
  rw [List.length_append, List.length_cons] at this; omega
end Dc
def onlyL (l : List Nat) : Bool := l.all Dc.dig && decide (l.length ≠ 0)
theorem onlyB_L (s : ByteArray) : onlyB s = onlyL (bts s) := by unfold onlyB onlyL; rw [bts_length]
theorem onlyL_digs {s : ByteArray} (h : onlyL (bts s) = true) : Digs s := by
 unfold onlyL at h
 rw [Bool.and_eq_true, decide_eq_true_eq] at h
 exact ⟨h.1, fun he => h.2 (by rw [he]; rfl)⟩
def allL (m : List Nat) : List Nat := Dc.whole m ++ Dc.part m
theorem readR_yes {l m : List Nat} {neg : Bool} (hu : Dc.unsign l = (neg, m)) (ho : onlyL (allL m) = true) : readR l = resOf (Dc.can neg (Dc.val (allL m)) (Dc.part m).length) := by
 unfold onlyL at ho
 rw [Bool.and_eq_true, decide_eq_true_eq] at ho
 unfold readR Dc.readD
 rw [hu]
 simp only
 rw [if_pos ⟨ho.1, fun he => ho.2 (by unfold allL; rw [he]; rfl)⟩]
 rfl
theorem readR_no {l m : List Nat} {neg : Bool} (hu : Dc.unsign l = (neg, m)) (ho : onlyL (allL m) = false) : readR l = formR := by
 unfold readR Dc.readD
 rw [hu]
 simp only
 rw [if_neg]
 rintro ⟨h1, h2⟩
 have : onlyL (allL m) = true := by
  unfold onlyL
  rw [Bool.and_eq_true, decide_eq_true_eq]
  exact ⟨h1, fun he => h2 (List.length_eq_zero_iff.1 he)⟩
 rw [this] at ho; cases ho
theorem unsign_minus {s : ByteArray} (h : (bts s).head? = some 45) : Dc.unsign (bts s) = (true, bts (s.extract 1 s.size)) := by
 rw [bts_tail]
 cases hb : bts s with
 | nil => rw [hb] at h; cases h
 | cons c r => rw [hb] at h; obtain rfl : c = 45 := Option.some.inj h; rfl
theorem unsign_plus {s : ByteArray} (h : (bts s).head? = some 43) : Dc.unsign (bts s) = (false, bts (s.extract 1 s.size)) := by
 rw [bts_tail]
 cases hb : bts s with
 | nil => rw [hb] at h; cases h
 | cons c r => rw [hb] at h; obtain rfl : c = 43 := Option.some.inj h; rfl
theorem unsign_none {s : ByteArray} (h1 : (bts s).head? ≠ some 45) (h2 : (bts s).head? ≠ some 43) : Dc.unsign (bts s) = (false, bts s) := by
 cases hb : bts s with
 | nil => rfl
 | cons c r =>
  rw [hb] at h1 h2
  show (if c = 45 then (true, r) else if c = 43 then (false, r) else (false, c :: r)) = _
  rw [if_neg (fun e => h1 (by rw [e]; rfl)), if_neg (fun e => h2 (by rw [e]; rfl))]
end Go.Proofs.YtckodhldimhbfaaGreatDoor
namespace Go.Proofs.YtckodhldimhbfaaGreatDoor
open Go Go.RowKit Go.Ex
set_option maxRecDepth 1000000
theorem text_whole {n : Bool} {l : List Nat} {u : ByteArray} (hu : bts u = Dc.wide l 0) (x : ByteArray) (hx : bts x = if n then 45 :: bts u else bts u) : x = str (Dc.txt n l 0) := by
 rw [<- str_bts x, hx, hu]
 unfold Dc.txt Dc.dotted
 rw [if_pos rfl]
theorem text_dotted {n : Bool} {l : List Nat} {S : Nat} (hS : S ≠ 0) {u : ByteArray} (hu : bts u = Dc.wide l S) (x : ByteArray) (hx : bts x = if n then 45 :: ((bts u).take (u.size - S) ++ 46 :: (bts u).drop (u.size - S)) else (bts u).take (u.size - S) ++ 46 :: (bts u).drop (u.size - S)) : x = str (Dc.txt n l S) := by
 rw [<- str_bts x, hx, <- bts_length u, hu]
 unfold Dc.txt Dc.dotted
 rw [if_neg hS]
theorem bts_45 (x : ByteArray) : bts (⟨#[45]⟩ ++ x) = 45 :: bts x := by rw [str_add]; rfl
theorem bts_46 (x y : ByteArray) : bts (x ++ ⟨#[46]⟩ ++ y) = bts x ++ 46 :: bts y := by rw [str_add, str_add, List.append_assoc]; rfl
def ptX (w : X) : X := .sub .i64 (.len w) (.at 3)
def dotX (w : X) : X := .cat (.cat (.cut w (.int 0) (ptX w)) (.str [46])) (.cut w (ptX w) (.len w))
def txL (x : X) : Tree := .node (.at 1) (.leaf (.tup [.xs (.cat (.str [45]) x), it 0])) (.leaf (.tup [.xs x, it 0]))
def txT (w : X) : Tree := .node (.lt (.int 0) (.at 3)) (txL (dotX w)) (txL w)
def txF (w : X) : Fx := [(.lt (ptX w) (.int 0), false), (.lt (.len w) (ptX w), false), (.fits (.cut w (.int 0) (ptX w)) (.str [46]), true), (.fits (.cat (.cut w (.int 0) (ptX w)) (.str [46])) (.cut w (ptX w) (.len w)), true), (.fits (.str [45]) (dotX w), true), (.fits (.str [45]) w, true)]
section
variable {E : Nat -> Value} {w : X} {u : ByteArray} {T : Nat} (hu : w.evS E = u) (h3 : E 3 = .int .i64 (T : Int)) (hT : T <= u.size) (hs : u.size <= 1000)
include hu h3 hT hs
theorem pt_ev : (ptX w).evI E = ((u.size - T : Nat) : Int) := by
 simp only [ptX, X.evI, hu, h3]
 rw [wsub hT hs]
theorem dot_ev : (dotX w).evS E = (u.extract 0 (u.size - T) ++ ⟨#[46]⟩) ++ u.extract (u.size - T) u.size := by
 have h := pt_ev hu h3 hT hs
 simp only [dotX, X.evS, hu, h, X.evI, Int.toNat_natCast]
 rfl
theorem txF_ok : (txF w).Ok E := by
 have h := pt_ev hu h3 hT hs
 have hd := dot_ev hu h3 hT hs
 have z46 : (Ex.bytes [46]).size = 1 := rfl
 have z45 : (Ex.bytes [45]).size = 1 := rfl
 have z46' : (⟨#[46]⟩ : ByteArray).size = 1 := rfl
 refine ⟨decide_eq_false ?_, decide_eq_false ?_, decide_eq_true ?_, decide_eq_true ?_, decide_eq_true ?_, decide_eq_true ?_, trivial⟩
 ·rw [h]; simp only [X.evI]; omega
 ·rw [h]; simp only [X.evI, hu]; omega
 ·simp only [X.evS, hu, h, X.evI, Int.toNat_natCast, ByteArray.size_extract, z46]; omega
 ·simp only [X.evS, hu, h, X.evI, Int.toNat_natCast, ByteArray.size_append, ByteArray.size_extract, z46]; omega
 ·rw [hd]; simp only [X.evS, ByteArray.size_append, ByteArray.size_extract, z45, z46']; omega
 ·simp only [X.evS, hu, z45]; omega
theorem tx_at {n : Bool} {l : List Nat} (h1 : E 1 = .bool n) (hw : bts u = Dc.wide l T) : ((txT w).at E).den L0 E = .tuple #[.string (str (Dc.txt n l T)), .int .i64 0] := by
 have hd := dot_ev hu h3 hT hs
 have e : (txT w).at E = bif decide (0 < (T : Int)) then (bif n then .tup [.xs (.cat (.str [45]) (dotX w)), it 0] else .tup [.xs (dotX w), it 0]) else (bif n then .tup [.xs (.cat (.str [45]) w), it 0] else .tup [.xs w, it 0]) := by
  simp only [txT, txL, Tree.at, X.evB, X.evI, h1, h3]
 rw [e]
 have key : ∀ x : X, x.evS E = str (Dc.txt n l T) -> V.den L0 E (.tup [.xs x, it 0]) = .tuple #[.string (str (Dc.txt n l T)), .int .i64 0] := fun x hx => by
  rw [<- hx]; rfl
 have b1 : bts (u.extract 0 (u.size - T)) = (bts u).take (u.size - T) := by rw [bts_extract, List.drop_zero]
 have b2 : bts (u.extract (u.size - T) u.size) = (bts u).drop (u.size - T) := bts_from u _
 by_cases h0 : T = 0
 ·subst h0
  rw [decide_eq_false (by omega), cond_false]
  cases n
  ·exact key w (text_whole hw _ (by rw [if_neg (by decide), hu]))
  ·exact key _ (text_whole hw _ (by rw [if_pos rfl]; show bts (⟨#[45]⟩ ++ w.evS E) = _; rw [bts_45, hu]))
 ·rw [decide_eq_true (by omega), cond_true]
  cases n
  ·exact key _ (text_dotted h0 hw _ (by rw [if_neg (by decide), hd, bts_46, b1, b2]))
  ·exact key _ (text_dotted h0 hw _ (by rw [if_pos rfl]; show bts (⟨#[45]⟩ ++ (dotX w).evS E) = _; rw [bts_45, hd, bts_46, b1, b2]))
end
def rxC : List CallX := [⟨41, [deV 1], [], xi 4⟩, ⟨107, [.xi .i64 (.add .i64 (.sub .i64 (.at 3) (.len (.at 2))) (.int 1))], [(.eq (.at 4) (.int 0), true), (.lt (.at 3) (.len (.at 2)), false)], xs 5⟩]
def ceX : X := .cat (.at 5) (.at 2)
theorem run_rtext0 : chk (runTr Tryz.prog nG (fun _ => none) (fun _ => true) deT rxC 100 68 [deV 1] hN) (.leaf (.tup [.str [], it 2])) [(.eq (.at 4) (.int 0), false)] = true := by decide +kernel
theorem run_rtext1 : chk (runTr Tryz.prog nG (fun _ => none) (fun _ => true) deT rxC 100 68 [deV 1] hN) (txT (.at 2)) ((.eq (.at 4) (.int 0), true) :: (.lt (.at 3) (.len (.at 2)), true) :: txF (.at 2)) = true := by decide +kernel
theorem run_rtext2 : chk (runTr Tryz.prog nG (fun _ => none) (fun _ => true) deT rxC 100 68 [deV 1] hN) (txT ceX) ((.eq (.at 4) (.int 0), true) :: (.lt (.at 3) (.len (.at 2)), false) :: (.fits (.at 5) (.at 2), true) :: txF ceX) = true := by decide +kernel
theorem rtext_is (n : Bool) (s : ByteArray) (S : Int) (hs : s.size <= 1000000) (t : ByteArray) (k : Int) (hr : textR n s S = (t, k)) (w : World) : Calls Tryz.prog 68 #[.agg #[.bool n, .string s, .int .i64 S]] w fun e w' => e = .returned (.tuple #[.string t, .int .i64 k]) /\ Below w.heap.size w w' := by
 have hc : AllX Tryz.prog (envE (.int .i64 0 :: [.bool n, .string s, .int .i64 S, .int .i64 (ckI n s S), .string (zs (S.toNat + 1 - s.size))])) (fun _ => True) rxC := by
  refine ⟨⟨rfl, fk, fun _ L w _ => rcheck_r n s S hs _ rfl w⟩, ⟨rfl, fk, fun hp L w _ => ?_⟩, trivial⟩
  have h1 : decide (ckI n s S = 0) = true := hp.1
  rw [ck_zero] at h1
  have k1 := okB_ok h1
  have h2 := of_decide_eq_false (show decide (S < (s.size : Int)) = false from hp.2.1)
  have := k1.low; have := k1.high; have := k1.size
  refine rzeros_v _ _ ?_ (by omega) w
  show IntKind.i64.wrap (IntKind.i64.wrap (S - (s.size : Int)) + 1) = _
  rw [IntKind.wrap_i64, IntKind.wrap_i64]; omega
 unfold textR at hr
 cases h1 : okB n s S with
 | false =>
  rw [if_neg (by rw [h1]; decide)] at hr; cases hr
  exact tree_nv run_rtext0 hc rfl ⟨by show decide (ckI n s S = 0) = false; rw [ck_zero, h1], trivial⟩ rfl rfl rfl
 | true =>
  rw [if_pos h1] at hr; cases hr
  have k1 := okB_ok h1
  have hz : decide (ckI n s S = 0) = true := by rw [ck_zero, h1]
  obtain ⟨T, rfl⟩ : ∃ T : Nat, S = T := ⟨S.toNat, by have := k1.low; omega⟩
  have hT : T <= 60 := by have := k1.high; omega
  have z := k1.size
  by_cases h : T < s.size
  ·exact tree_nv run_rtext1 hc rfl ⟨hz, decide_eq_true (show (T : Int) < (s.size : Int) by omega), txF_ok (u := s) (T := T) rfl rfl (by omega) (by omega)⟩ rfl rfl (tx_at (u := s) (T := T) (n := n) rfl rfl (by omega) (by omega) rfl (by
    unfold Dc.wide; rw [show T + 1 - (bts s).length = 0 by rw [bts_length]; omega]; rfl))
  ·have zu : (zs (T + 1 - s.size) ++ s).size = T + 1 := by rw [ByteArray.size_append, zs_size]; omega
   exact tree_nv run_rtext2 hc rfl ⟨hz, decide_eq_false (show ¬ (T : Int) < (s.size : Int) by omega), decide_eq_true (show (zs _).size + s.size <= 9223372036854775807 by rw [zs_size]; omega), txF_ok (u := zs (T + 1 - s.size) ++ s) (T := T) rfl rfl (by omega) (by omega)⟩ rfl rfl (tx_at (u := zs (T + 1 - s.size) ++ s) (T := T) (n := n) rfl rfl (by omega) (by omega) rfl (by
    unfold Dc.wide; rw [str_add, zs_bts, bts_length]))
end Go.Proofs.YtckodhldimhbfaaGreatDoor
