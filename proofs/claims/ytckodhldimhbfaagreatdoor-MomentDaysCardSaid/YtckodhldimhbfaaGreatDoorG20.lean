/-
  Part 20 of the proof: what functions return, and plain facts (Mlift). Conditions: each theorem names its own.
-/
import Derived.Test.YtckodhldimhbfaaGreatDoorRows
import Derived.Test.YtckodhldimhbfaaGreatDoorG19
import Derived.Test.YtckodhldimhbfaaGreatDoorG14
import Derived.ProofKit
import Derived.LaidMore
import Derived.OpenShut
import Derived.Stop.Joined
import Derived.Lay
import Derived.Deep.DeepHandedRow
import Derived.Deep.DeepWitnessRowRef
import Derived.Lib.LaidTab
import Derived.Shelf.Vars
import Derived.Carry
import Derived.ChangeMaps5
set_option maxRecDepth 1000000
set_option maxHeartbeats 16000000
namespace Go.Proofs.YtckodhldimhbfaaGreatDoor
open Go.ChangeShapes Go.WideShapes Go.ChangeAt Go.ChangeMaps Go.RowKit

theorem ownN : ownKnob Tryz.prog.godebug = none := by kernel_rfl
theorem gPow : Tryz.prog.globalNamed "internal/strconv.uint64pow10" = some 2 := by kernel_rfl
theorem tPow : (Tryz.prog.globals[2]?).map (·.type) = some 176 := by kernel_rfl

theorem gLen : Tryz.prog.globalNamed "gabarit/moment.lengths" = some 0 := by kernel_rfl
theorem tLen : (Tryz.prog.globals[0]?).map (·.type) = some 108 := by kernel_rfl

noncomputable def laidWorld (os : Os) : World := (World.doorLaid Tryz.prog 72 os).layVars Tryz.prog [("unicode/utf8.first", Rows.laid_unicode_utf8_first)]

theorem laid_met (os : Os) (args : Array Value) : laidMet Tryz.prog Rows.momentAddsRow.laid ((laidWorld os).forCall (fun _ _ => 0) ⟨#[], args, []⟩).memory :=
 laidMet_layVars (w0 := World.doorLaid Tryz.prog 72 os) ["unicode/utf8.first"] ((List.range (World.doorLaid Tryz.prog 72 os).heap.size).filter fun i => i != 5) (by kernel_rfl) (by kernel_rfl) (by kernel_rfl)
  (LaidIn.of_run _ 8 (by kernel_rfl) (by kernel_rfl) (by kernel_rfl) (by kernel_rfl))

theorem good_of_laid {W : World} (h : laidMetH Tryz.prog Rows.momentAddsRow.laid W) (hsh : W.ShapedOpen Tryz.prog) : Good W := by
 rw [MakeChecks.laidMetH_plain _ _ _ (by kernel_rfl)] at h
 obtain ⟨ps, hl, _, _⟩ := h
 obtain ⟨_, _, _, _, _, _, _, _, _, _, hl, _⟩ := hl
 obtain ⟨_, _, _, _, _, _, _, _, _, _, hl, _⟩ := hl
 obtain ⟨g2, t2, cs2, f2, p2, q2, hg2, ht2, hv2, hd2, hl, _⟩ := hl
 refine ⟨?_, ?_⟩
 ·obtain rfl := Option.some.inj (gPow.symm.trans hg2)
  obtain rfl := Option.some.inj (tPow.symm.trans ht2)
  unfold Pow Lib.TabIs
  rw [hv2, <- Lib.cells_of_tab (k := .u64) (zs := Lib.pow10Tab) Tryz.underlying176 Tryz.underlying151 (by kernel_rfl) (by kernel_rfl) hd2]
 ·exact cell_of_shapedOpen_int (zero := #[.int .i64 0]) (t := 3) hsh (of_decide_eq_true (by kernel_rfl)) (by kernel_rfl) rfl (by kernel_rfl) (by kernel_rfl) Tryz.underlying3

theorem lens_of_laid {W : World} (h : laidMetH Tryz.prog Rows.momentAddsRow.laid W) : W.var? Tryz.prog "gabarit/moment.lengths" = some monthLens.toArray := by
 rw [MakeChecks.laidMetH_plain _ _ _ (by kernel_rfl)] at h
 obtain ⟨ps, hl, _, _⟩ := h
 obtain ⟨_, _, _, _, _, _, _, _, _, _, hl, _⟩ := hl
 obtain ⟨_, _, _, _, _, _, _, _, _, _, hl, _⟩ := hl
 obtain ⟨_, _, _, _, _, _, _, _, _, _, hl, _⟩ := hl
 obtain ⟨_, _, _, _, _, _, _, _, _, _, hl, _⟩ := hl
 obtain ⟨_, _, _, _, _, _, _, _, _, _, hl, _⟩ := hl
 obtain ⟨_, _, _, _, _, _, _, _, _, _, hl, _⟩ := hl
 obtain ⟨g2, t2, cs2, f2, p2, q2, hg2, ht2, hv2, hd2, hl, _⟩ := hl
 obtain rfl := Option.some.inj (gLen.symm.trans hg2)
 obtain rfl := Option.some.inj (tLen.symm.trans ht2)
 unfold monthLens
 rw [hv2, <- Lib.cells_of_tab (k := .i64) (zs := [31, 28, 31, 30, 31, 30, 31, 31, 30, 31, 30, 31]) Tryz.underlying108 Tryz.underlying3 (by kernel_rfl) (by kernel_rfl) hd2]
theorem vars_of_laid {W : World} (h : laidMetH Tryz.prog Rows.momentAddsRow.laid W) (hsh : W.ShapedOpen Tryz.prog) : ∃ M, Vars M W := by
 have hG := good_of_laid h hsh
 have hl := lens_of_laid h
 obtain ⟨m, hm⟩ := hG.mx
 have hp := hG.pow
 refine ⟨m, ?_, ?_, ?_⟩
 ·obtain ⟨cs, hw, hz, _⟩ := hsh.1 1 #[.int .i64 0] 3 (of_decide_eq_true (by kernel_rfl)) (by kernel_rfl)
  refine ⟨0, 0, ?_, .inl (Nat.le_refl _)⟩
  rw [hw]
  unfold World.cell? at hm
  rw [hw] at hm
  obtain ⟨l⟩ := cs
  match l, hz, hm with
  | [x], _, hm =>
   simp at hm
   rw [hm]
 ·obtain ⟨cs, hw, _, _⟩ := hsh.1 2 (Array.replicate 20 (.int .u64 0)) 176 (of_decide_eq_true (by kernel_rfl)) (by kernel_rfl)
  refine ⟨0, 0, ?_, .inl (Nat.le_refl _)⟩
  unfold Pow Lib.TabIs World.var? at hp
  rw [gPow, Option.bind_some, hw] at hp
  rw [hw]
  simp only [Option.some.injEq] at hp
  rw [hp]
 ·obtain ⟨cs, hw, _, _⟩ := hsh.1 0 (Array.replicate 12 (.int .i64 0)) 108 (of_decide_eq_true (by kernel_rfl)) (by kernel_rfl)
  refine ⟨0, 0, ?_, .inl (Nat.le_refl _)⟩
  unfold World.var? at hl
  rw [gLen, Option.bind_some, hw] at hl
  rw [hw]
  simp only [Option.some.injEq] at hl
  rw [hl]

section
variable {H : Type} {enc : TypeId × Value -> H} {P : Program}
theorem trodAll_below (hl : laidOutB P = true) {W W' : World} (hb : Below W.heap.size W W') : ∀ (ts : List TypeId) (vs : List Value) (ds : List (DataW H)) (ps : List MemPlace), (∀ t ∈ ts, P.readableRec t = true /\ t < P.types.size) ->
  DataW.TrodAll enc P W 0 (fun _ => true) true ts vs ds ps -> (∀ x ∈ ps, x.block < W.heap.size) -> DataW.TrodAll enc P W' 0 (fun b => decide (b < W.heap.size)) true ts vs ds ps
 | [], [], [], _, _, h, _ => h
 | [], [], _ :: _, _, _, h, _ => h.elim
 | [], _ :: _, _, _, _, h, _ => h.elim
 | _ :: _, [], _, _, _, h, _ => h.elim
 | _ :: _, _ :: _, [], _, _, h, _ => h.elim
 | t :: ts, v :: vs, d :: ds, ps, hr, h, hlt => by
  obtain ⟨p, q, h0, h1, rfl⟩ := h
  obtain ⟨r0, r1⟩ := hr t (List.mem_cons_self ..)
  exact ⟨p, q, Below.trod hl r0 r1 h0 hb (fun x hx => hlt x (by simp [hx])), trodAll_below hl hb ts vs ds q (fun u hu => hr u (List.mem_cons_of_mem _ hu)) h1 (fun x hx => hlt x (by simp [hx])), rfl⟩
theorem post_law (hl : laidOutB P = true) {f : Func} {s : ChangeSpec} {apart fresh handsOn : Bool} {W W' : World} {args : Array Value} {ds gs : List (DataW H)} {before : List MemPlace} {tb : TypeId}
  (hbool : P.underlying tb = some .bool) (hres : f.resultTypes = #[tb]) (hpar : ∀ t ∈ f.params.toList, P.readableRec t = true /\ t < P.types.size) (hvars : s.vars = [])
  (hfn : s.fn H ds = { results := [.lit (.bool true)], args := ds }) (hW : DataW.Whole enc P f.params.toList s.vars apart W args.toList ds gs before) (hb : Below W.heap.size W W') :
  s.post enc P f apart fresh handsOn false W args (.bool true) W' := by
 have hlt : ∀ x ∈ before, x.block < W.heap.size := fun x hx => hW.lt x hx
 have hW' := hW
 obtain ⟨p, q, hA, hV, rfl, _, _⟩ := hW
 rw [hvars] at hV
 have hgs : gs = [] /\ q = [] := by
  cases gs with
  | nil => exact ⟨rfl, hV⟩
  | cons _ _ => exact hV.elim
 obtain ⟨rfl, rfl⟩ := hgs
 refine ⟨ds, [], p ++ [], [], p, [], hW', ?_, ?_, ?_, hb.frame _, fun h => by cases h⟩
 ·rw [List.append_nil, hfn, hres]
  exact trodAll_mk1 (shut_bool hbool _)
 ·rw [List.append_nil, hfn]
  exact trodAll_below hl hb _ _ _ _ hpar hA (fun x hx => hlt x (by simp [hx]))
 ·rw [List.append_nil, hfn, hvars]
  rfl
end
set_option maxRecDepth 100000
theorem decCells : Tryz.prog.cellsOf 23 = 3 := by kernel_rfl
theorem boolCells : Tryz.prog.cellsOf 4 = 1 := by kernel_rfl
theorem strCellsN : Tryz.prog.cellsOf 9 = 1 := by kernel_rfl
theorem intCells : Tryz.prog.cellsOf 3 = 1 := by kernel_rfl
theorem open_dec {H : Type} {enc : TypeId × Value -> H} {W : World} {r : Reach} {b0 base : Nat} {sp : Nat -> Bool} {held : Bool} {v : Value} {d : DataW H} {ps : List MemPlace} (hval : Value.okWide Tryz.prog W r b0 23 v) (hd : DataW.Trod enc Tryz.prog W base sp held 23 v d ps) :
  ∃ (n : Bool) (s : ByteArray) (S : Int), v = .agg #[.bool n, .string s, .int .i64 S] /\ s.size <= maxLen := by
 obtain ⟨cs, rfl, hsz⟩ := okWide_struct Tryz.underlying23 hval
 obtain ⟨fuel, hf⟩ := hd
 obtain ⟨xs, n, _, _, _, hlen, hfs⟩ := DataW.trod_struct Tryz.underlying23 hf
 rw [decCells] at hsz
 obtain ⟨x0, h0⟩ : ∃ x, xs[0]? = some x := ⟨_, List.getElem?_eq_getElem (by rw [hlen]; decide)⟩
 obtain ⟨x1, h1⟩ : ∃ x, xs[1]? = some x := ⟨_, List.getElem?_eq_getElem (by rw [hlen]; decide)⟩
 obtain ⟨x2, h2⟩ : ∃ x, xs[2]? = some x := ⟨_, List.getElem?_eq_getElem (by rw [hlen]; decide)⟩
 have e0 : DataW.trod enc Tryz.prog W base sp held n 4 ((cs.toList.drop 0).take (Tryz.prog.cellsOf 4)) = some x0 := (hfs 0 _ rfl).trans h0
 rw [boolCells] at e0
 have e1 : DataW.trod enc Tryz.prog W base sp held n 9 ((cs.toList.drop 1).take (Tryz.prog.cellsOf 9)) = some x1 := (hfs 1 _ rfl).trans h1
 rw [strCellsN] at e1
 have e2 : DataW.trod enc Tryz.prog W base sp held n 3 ((cs.toList.drop 2).take (Tryz.prog.cellsOf 3)) = some x2 := (hfs 2 _ rfl).trans h2
 rw [intCells] at e2
 obtain ⟨b, hb, _⟩ := DataW.trod_bool Tryz.underlying4 e0
 obtain ⟨s, hs, _, hsl⟩ := DataW.trod_string Tryz.underlying9 e1
 obtain ⟨S, hS, _⟩ := DataW.trod_int Tryz.underlying3 e2
 refine ⟨b, s, S, ?_, hsl⟩
 congr 1
 obtain ⟨l⟩ := cs
 match l, hsz with
 | [a, b', c], _ => simp_all
theorem momCells : Tryz.prog.cellsOf 25 = 11 := by kernel_rfl
theorem open_mo {H : Type} {enc : TypeId × Value -> H} {W : World} {r : Reach} {b0 base : Nat} {sp : Nat -> Bool} {held : Bool} {v : Value} {d : DataW H} {ps : List MemPlace} (hval : Value.okWide Tryz.prog W r b0 25 v) (hd : DataW.Trod enc Tryz.prog W base sp held 25 v d ps) :
  ∃ x : Mo, v = x.val := by
 obtain ⟨cs, rfl, hsz⟩ := okWide_struct Tryz.underlying25 hval
 obtain ⟨fuel, hf⟩ := hd
 obtain ⟨xs, n, _, _, _, hlen, hfs⟩ := DataW.trod_struct Tryz.underlying25 hf
 rw [momCells] at hsz
 obtain ⟨x0, h0⟩ : ∃ x, xs[0]? = some x := ⟨_, List.getElem?_eq_getElem (by rw [hlen]; decide)⟩
 have e0 : DataW.trod enc Tryz.prog W base sp held n 3 ((cs.toList.drop 0).take (Tryz.prog.cellsOf 3)) = some x0 := (hfs 0 _ rfl).trans h0
 rw [intCells] at e0
 obtain ⟨x1, h1⟩ : ∃ x, xs[1]? = some x := ⟨_, List.getElem?_eq_getElem (by rw [hlen]; decide)⟩
 have e1 : DataW.trod enc Tryz.prog W base sp held n 3 ((cs.toList.drop 1).take (Tryz.prog.cellsOf 3)) = some x1 := (hfs 1 _ rfl).trans h1
 rw [intCells] at e1
 obtain ⟨x2, h2⟩ : ∃ x, xs[2]? = some x := ⟨_, List.getElem?_eq_getElem (by rw [hlen]; decide)⟩
 have e2 : DataW.trod enc Tryz.prog W base sp held n 3 ((cs.toList.drop 2).take (Tryz.prog.cellsOf 3)) = some x2 := (hfs 2 _ rfl).trans h2
 rw [intCells] at e2
 obtain ⟨x3, h3⟩ : ∃ x, xs[3]? = some x := ⟨_, List.getElem?_eq_getElem (by rw [hlen]; decide)⟩
 have e3 : DataW.trod enc Tryz.prog W base sp held n 3 ((cs.toList.drop 3).take (Tryz.prog.cellsOf 3)) = some x3 := (hfs 3 _ rfl).trans h3
 rw [intCells] at e3
 obtain ⟨x4, h4⟩ : ∃ x, xs[4]? = some x := ⟨_, List.getElem?_eq_getElem (by rw [hlen]; decide)⟩
 have e4 : DataW.trod enc Tryz.prog W base sp held n 3 ((cs.toList.drop 4).take (Tryz.prog.cellsOf 3)) = some x4 := (hfs 4 _ rfl).trans h4
 rw [intCells] at e4
 obtain ⟨x5, h5⟩ : ∃ x, xs[5]? = some x := ⟨_, List.getElem?_eq_getElem (by rw [hlen]; decide)⟩
 have e5 : DataW.trod enc Tryz.prog W base sp held n 3 ((cs.toList.drop 5).take (Tryz.prog.cellsOf 3)) = some x5 := (hfs 5 _ rfl).trans h5
 rw [intCells] at e5
 obtain ⟨x6, h6⟩ : ∃ x, xs[6]? = some x := ⟨_, List.getElem?_eq_getElem (by rw [hlen]; decide)⟩
 have e6 : DataW.trod enc Tryz.prog W base sp held n 23 ((cs.toList.drop 6).take (Tryz.prog.cellsOf 23)) = some x6 := (hfs 6 _ rfl).trans h6
 rw [decCells] at e6
 obtain ⟨x7, h7⟩ : ∃ x, xs[7]? = some x := ⟨_, List.getElem?_eq_getElem (by rw [hlen]; decide)⟩
 have e7 : DataW.trod enc Tryz.prog W base sp held n 4 ((cs.toList.drop 9).take (Tryz.prog.cellsOf 4)) = some x7 := (hfs 7 _ rfl).trans h7
 rw [boolCells] at e7
 obtain ⟨x8, h8⟩ : ∃ x, xs[8]? = some x := ⟨_, List.getElem?_eq_getElem (by rw [hlen]; decide)⟩
 have e8 : DataW.trod enc Tryz.prog W base sp held n 3 ((cs.toList.drop 10).take (Tryz.prog.cellsOf 3)) = some x8 := (hfs 8 _ rfl).trans h8
 rw [intCells] at e8
 obtain ⟨q0, f0, _⟩ := DataW.trod_int Tryz.underlying3 e0
 obtain ⟨q1, f1, _⟩ := DataW.trod_int Tryz.underlying3 e1
 obtain ⟨q2, f2, _⟩ := DataW.trod_int Tryz.underlying3 e2
 obtain ⟨q3, f3, _⟩ := DataW.trod_int Tryz.underlying3 e3
 obtain ⟨q4, f4, _⟩ := DataW.trod_int Tryz.underlying3 e4
 obtain ⟨q5, f5, _⟩ := DataW.trod_int Tryz.underlying3 e5
 obtain ⟨q7, f7, _⟩ := DataW.trod_bool Tryz.underlying4 e7
 obtain ⟨q8, f8, _⟩ := DataW.trod_int Tryz.underlying3 e8
 obtain ⟨ys, n', _, _, _, hlen', hgs⟩ := DataW.trod_struct Tryz.underlying23 e6
 obtain ⟨y0, g0⟩ : ∃ y, ys[0]? = some y := ⟨_, List.getElem?_eq_getElem (by rw [hlen']; decide)⟩
 have d0 : DataW.trod enc Tryz.prog W base sp held n' 4 ((((cs.toList.drop 6).take 3).drop 0).take (Tryz.prog.cellsOf 4)) = some y0 := (hgs 0 _ rfl).trans g0
 rw [boolCells] at d0
 obtain ⟨y1, g1⟩ : ∃ y, ys[1]? = some y := ⟨_, List.getElem?_eq_getElem (by rw [hlen']; decide)⟩
 have d1 : DataW.trod enc Tryz.prog W base sp held n' 9 ((((cs.toList.drop 6).take 3).drop 1).take (Tryz.prog.cellsOf 9)) = some y1 := (hgs 1 _ rfl).trans g1
 rw [strCellsN] at d1
 obtain ⟨y2, g2⟩ : ∃ y, ys[2]? = some y := ⟨_, List.getElem?_eq_getElem (by rw [hlen']; decide)⟩
 have d2 : DataW.trod enc Tryz.prog W base sp held n' 3 ((((cs.toList.drop 6).take 3).drop 2).take (Tryz.prog.cellsOf 3)) = some y2 := (hgs 2 _ rfl).trans g2
 rw [intCells] at d2
 obtain ⟨b, hb, _⟩ := DataW.trod_bool Tryz.underlying4 d0
 obtain ⟨s, hs, _, _⟩ := DataW.trod_string Tryz.underlying9 d1
 obtain ⟨S, hS, _⟩ := DataW.trod_int Tryz.underlying3 d2
 refine ⟨⟨q0, q1, q2, q3, q4, q5, b, s, S, q7, q8⟩, ?_⟩
 show Value.agg cs = .agg _
 congr 1
 clear e0 e1 e2 e3 e4 e5 e6 e7 e8 d0 d1 d2 hf hfs hgs
 obtain ⟨l⟩ := cs
 match l, hsz with
 | [_, _, _, _, _, _, _, _, _, _, _], _ =>
  simp only [List.drop_zero, List.drop_succ_cons, List.take_succ_cons, List.take_zero, List.cons.injEq, and_true] at f0 f1 f2 f3 f4 f5 f7 f8 hb hs hS
  subst f0 f1 f2 f3 f4 f5 f7 f8 hb hs hS
  rfl
end Go.Proofs.YtckodhldimhbfaaGreatDoor
