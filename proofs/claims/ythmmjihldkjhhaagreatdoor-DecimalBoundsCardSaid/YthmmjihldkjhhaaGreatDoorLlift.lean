/-
  A world that holds what the decimal rows list of variables; what their list gives; the end of a law that returns true; a decimal that came in. No condition.
-/
import Derived.Test.YthmmjihldkjhhaaGreatDoorRows
import Derived.Test.YthmmjihldkjhhaaGreatDoorPread
import Derived.ProofKit
import Derived.LaidMore
import Derived.OpenShut
import Derived.Stop.Joined
import Derived.Lay
import Derived.Deep.DeepHandedRow
import Derived.Deep.DeepWitnessRowRef
import Derived.Lib.LaidTab
import Derived.Shelf.Vars
import Derived.Carry
import Derived.ChangeMaps5
namespace Go.Proofs.YthmmjihldkjhhaaGreatDoor
open Go.ChangeShapes Go.WideShapes Go.ChangeAt Go.ChangeMaps Go.RowKit

theorem ownN : ownKnob Tryz.prog.godebug = none := by kernel_rfl
theorem gPow : Tryz.prog.globalNamed "internal/strconv.uint64pow10" = some 1 := by kernel_rfl
theorem tPow : (Tryz.prog.globals[1]?).map (·.type) = some 123 := by kernel_rfl

/-- The settled world, the variables holding what their initialisers lay. -/
noncomputable def laidWorld (os : Os) : World := (World.doorLaid Tryz.prog 72 os).layVars Tryz.prog [("unicode/utf8.first", Rows.laid_unicode_utf8_first)]

theorem laid_met (os : Os) (args : Array Value) : laidMet Tryz.prog Rows.decimalSumsRow.laid ((laidWorld os).forCall (fun _ _ => 0) ⟨#[], args, []⟩).memory :=
  laidMet_layVars (w0 := World.doorLaid Tryz.prog 72 os) ["unicode/utf8.first"] ((List.range (World.doorLaid Tryz.prog 72 os).heap.size).filter fun i => i != 4) (by kernel_rfl) (by kernel_rfl) (by kernel_rfl)
    (LaidIn.of_run _ 8 (by kernel_rfl) (by kernel_rfl) (by kernel_rfl) (by kernel_rfl))

set_option maxRecDepth 100000 in
theorem good_of_laid {W : World} (h : laidMetH Tryz.prog Rows.decimalSumsRow.laid W) (hsh : W.ShapedOpen Tryz.prog) : Good W := by
  rw [MakeChecks.laidMetH_plain _ _ _ (by kernel_rfl)] at h
  obtain ⟨ps, hl, _, _⟩ := h
  obtain ⟨_, _, _, _, _, _, _, _, _, _, hl, _⟩ := hl
  obtain ⟨_, _, _, _, _, _, _, _, _, _, hl, _⟩ := hl
  obtain ⟨g2, t2, cs2, f2, p2, q2, hg2, ht2, hv2, hd2, hl, _⟩ := hl
  refine ⟨?_, ?_⟩
  · obtain rfl := Option.some.inj (gPow.symm.trans hg2)
    obtain rfl := Option.some.inj (tPow.symm.trans ht2)
    unfold Pow Lib.TabIs
    rw [hv2, ← Lib.cells_of_tab (k := .u64) (zs := Lib.pow10Tab) Tryz.underlying123 Tryz.underlying89 (by kernel_rfl) (by kernel_rfl) hd2]
  · exact cell_of_shapedOpen_int (zero := #[.int .i64 0]) (t := 3) hsh (of_decide_eq_true (by kernel_rfl)) (by kernel_rfl) rfl (by kernel_rfl) (by kernel_rfl) Tryz.underlying3

section
variable {H : Type} {enc : TypeId × Value → H} {P : Program}
theorem trodAll_below (hl : laidOutB P = true) {W W' : World} (hb : Below W.heap.size W W') : ∀ (ts : List TypeId) (vs : List Value) (ds : List (DataW H)) (ps : List MemPlace), (∀ t ∈ ts, P.readableRec t = true ∧ t < P.types.size) →
    DataW.TrodAll enc P W 0 (fun _ => true) true ts vs ds ps → (∀ x ∈ ps, x.block < W.heap.size) → DataW.TrodAll enc P W' 0 (fun b => decide (b < W.heap.size)) true ts vs ds ps
  | [], [], [], _, _, h, _ => h
  | [], [], _ :: _, _, _, h, _ => h.elim
  | [], _ :: _, _, _, _, h, _ => h.elim
  | _ :: _, [], _, _, _, h, _ => h.elim
  | _ :: _, _ :: _, [], _, _, h, _ => h.elim
  | t :: ts, v :: vs, d :: ds, ps, hr, h, hlt => by
    obtain ⟨p, q, h0, h1, rfl⟩ := h
    obtain ⟨r0, r1⟩ := hr t (List.mem_cons_self ..)
    exact ⟨p, q, Below.trod hl r0 r1 h0 hb (fun x hx => hlt x (by simp [hx])), trodAll_below hl hb ts vs ds q (fun u hu => hr u (List.mem_cons_of_mem _ hu)) h1 (fun x hx => hlt x (by simp [hx])), rfl⟩
/-- A law that has returned true, with all that was there before as it was. -/
theorem post_law (hl : laidOutB P = true) {f : Func} {s : ChangeSpec} {apart fresh handsOn : Bool} {W W' : World} {args : Array Value} {ds gs : List (DataW H)} {before : List MemPlace} {tb : TypeId}
    (hbool : P.underlying tb = some .bool) (hres : f.resultTypes = #[tb]) (hpar : ∀ t ∈ f.params.toList, P.readableRec t = true ∧ t < P.types.size) (hvars : s.vars = [])
    (hfn : s.fn H ds = { results := [.lit (.bool true)], args := ds }) (hW : DataW.Whole enc P f.params.toList s.vars apart W args.toList ds gs before) (hb : Below W.heap.size W W') :
    s.post enc P f apart fresh handsOn false W args (.bool true) W' := by
  have hlt : ∀ x ∈ before, x.block < W.heap.size := fun x hx => hW.lt x hx
  have hW' := hW
  obtain ⟨p, q, hA, hV, rfl, _, _⟩ := hW
  rw [hvars] at hV
  have hgs : gs = [] ∧ q = [] := by
    cases gs with
    | nil => exact ⟨rfl, hV⟩
    | cons _ _ => exact hV.elim
  obtain ⟨rfl, rfl⟩ := hgs
  refine ⟨ds, [], p ++ [], [], p, [], hW', ?_, ?_, ?_, hb.frame _, fun h => by cases h⟩
  · rw [List.append_nil, hfn, hres]
    exact trodAll_mk1 (shut_bool hbool _)
  · rw [List.append_nil, hfn]
    exact trodAll_below hl hb _ _ _ _ hpar hA (fun x hx => hlt x (by simp [hx]))
  · rw [List.append_nil, hfn, hvars]
    rfl
end
set_option maxRecDepth 100000
theorem decCells : Tryz.prog.cellsOf 23 = 3 := by kernel_rfl
theorem boolCells : Tryz.prog.cellsOf 4 = 1 := by kernel_rfl
theorem strCellsN : Tryz.prog.cellsOf 9 = 1 := by kernel_rfl
theorem intCells : Tryz.prog.cellsOf 3 = 1 := by kernel_rfl
/-- A decimal that came in. -/
theorem open_dec {H : Type} {enc : TypeId × Value → H} {W : World} {r : Reach} {b0 base : Nat} {sp : Nat → Bool} {held : Bool} {v : Value} {d : DataW H} {ps : List MemPlace} (hval : Value.okWide Tryz.prog W r b0 23 v) (hd : DataW.Trod enc Tryz.prog W base sp held 23 v d ps) :
    ∃ (n : Bool) (s : ByteArray) (S : Int), v = .agg #[.bool n, .string s, .int .i64 S] ∧ s.size ≤ maxLen := by
  obtain ⟨cs, rfl, hsz⟩ := okWide_struct Tryz.underlying23 hval
  obtain ⟨fuel, hf⟩ := hd
  obtain ⟨xs, n, _, _, _, hlen, hfs⟩ := DataW.trod_struct Tryz.underlying23 hf
  rw [decCells] at hsz
  obtain ⟨x0, h0⟩ : ∃ x, xs[0]? = some x := ⟨_, List.getElem?_eq_getElem (by rw [hlen]; decide)⟩
  obtain ⟨x1, h1⟩ : ∃ x, xs[1]? = some x := ⟨_, List.getElem?_eq_getElem (by rw [hlen]; decide)⟩
  obtain ⟨x2, h2⟩ : ∃ x, xs[2]? = some x := ⟨_, List.getElem?_eq_getElem (by rw [hlen]; decide)⟩
  have e0 : DataW.trod enc Tryz.prog W base sp held n 4 ((cs.toList.drop 0).take (Tryz.prog.cellsOf 4)) = some x0 := (hfs 0 _ rfl).trans h0
  rw [boolCells] at e0
  have e1 : DataW.trod enc Tryz.prog W base sp held n 9 ((cs.toList.drop 1).take (Tryz.prog.cellsOf 9)) = some x1 := (hfs 1 _ rfl).trans h1
  rw [strCellsN] at e1
  have e2 : DataW.trod enc Tryz.prog W base sp held n 3 ((cs.toList.drop 2).take (Tryz.prog.cellsOf 3)) = some x2 := (hfs 2 _ rfl).trans h2
  rw [intCells] at e2
  obtain ⟨b, hb, _⟩ := DataW.trod_bool Tryz.underlying4 e0
  obtain ⟨s, hs, _, hsl⟩ := DataW.trod_string Tryz.underlying9 e1
  obtain ⟨S, hS, _⟩ := DataW.trod_int Tryz.underlying3 e2
  refine ⟨b, s, S, ?_, hsl⟩
  congr 1
  obtain ⟨l⟩ := cs
  match l, hsz with
  | [a, b', c], _ => simp_all
theorem int64_low {K : Int} (h : (Lit.int .i64 K).wf = true) : -9223372036854775808 ≤ K := by
  simp only [Lit.wf, Bool.and_eq_true, decide_eq_true_eq] at h
  exact h.1
theorem int64_high {K : Int} (h : (Lit.int .i64 K).wf = true) : K ≤ 9223372036854775807 := by
  simp only [Lit.wf, Bool.and_eq_true, decide_eq_true_eq] at h
  exact h.2
end Go.Proofs.YthmmjihldkjhhaaGreatDoor
