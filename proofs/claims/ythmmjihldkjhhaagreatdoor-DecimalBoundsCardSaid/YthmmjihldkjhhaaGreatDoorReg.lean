/-
  Blocks that are known whole; loads and stores at them; regions that draw their order, step by step. No condition.
-/
import Derived.Test.YthmmjihldkjhhaaGreatDoorBase
import Derived.Deep.RegionHeld3
import Derived.BigFrame
import Derived.Deep.DeepCutAuto
namespace Go.Proofs.YthmmjihldkjhhaaGreatDoor
open Go Go.RowKit

/-- A block that is known whole. -/
def Blk (W : World) (g : Nat) (t : TypeId) (cs : Array Value) : Prop := W.heap[g]? = some (.cells cs t (0, 0))
/-- A type of so many cells, a struct or an array. -/
noncomputable def aggT (t : TypeId) (n : Nat) : Bool := (match Tryz.prog.underlying t with | some d => d.isRow | none => false) && decide ((Tryz.prog.info? t).map (·.size) = some n)
/-- A type of one cell. -/
noncomputable def cellT (t : TypeId) : Bool := match Tryz.prog.underlying t with | some d => !d.isRow | none => false
theorem aggT_und {t : TypeId} {n : Nat} (h : aggT t n = true) : ∃ d, Tryz.prog.underlying t = some d ∧ d.isRow = true := by
  unfold aggT at h
  rw [Bool.and_eq_true] at h
  cases hu : Tryz.prog.underlying t with
  | none => rw [hu] at h; cases h.1
  | some d => rw [hu] at h; exact ⟨d, rfl, h.1⟩
theorem aggT_size {t : TypeId} {n : Nat} (h : aggT t n = true) : (Tryz.prog.info? t).map (·.size) = some n := by
  unfold aggT at h
  rw [Bool.and_eq_true] at h
  exact of_decide_eq_true h.2
section
variable {W W' : World} {g : Nat} {t : TypeId} {cs : Array Value}
theorem Blk.lt (h : Blk W g t cs) : g < W.heap.size := (Array.getElem?_eq_some_iff.1 h).1
theorem Blk.keep (h : Blk W g t cs) (hb : Below W.heap.size W W') : Blk W' g t cs := (hb.block g h.lt).trans h
theorem Blk.drew (h : Blk W g t cs) : Blk W.drew g t cs := h
theorem Blk.far {r : Nat} (h : Blk W g t cs) (hb : W.grownBy W' (some r)) (hr : g ≠ r) : Blk W' g t cs := (hb.block g h.lt (fun e => hr (Option.some.inj e))).trans h
theorem Blk.drewN (h : Blk W g t cs) (n : Nat) : Blk (W.drewN n) g t cs := h.keep (below_drewN (Below.refl _ W) n)
theorem Blk.cell (h : Blk W g t cs) (j : Nat) : W.cell? ⟨g, j, none⟩ = cs[j]? := cell_of_row W g j cs t (0, 0) h
theorem Blk.at (h : Blk W g t cs) {j : Nat} {v : Value} (hv : cs[j]? = some v) : W.cell? ⟨g, j, none⟩ = some v := (h.cell j).trans hv
theorem Blk.free (h : Blk W g t cs) (j : Nat) : W.frozen? ⟨g, j, none⟩ = false := by unfold Blk at h; simp [World.frozen?, h]
theorem Blk.new (W : World) (t : TypeId) (cs : Array Value) : Blk (W.alloc (.cells cs t)) W.heap.size t cs := heap_alloc_new W _
theorem Blk.old (h : Blk W g t cs) (o : Obj) : Blk (W.alloc o) g t cs := h.keep ((Below.refl _ W).alloc (Nat.le_refl _) _)
theorem Blk.range (h : Blk W g t cs) (j : Nat) (xs : List Value) (hx : (cs.toList.drop j).take xs.length = xs) : W.rangeAt g j xs := fun i v hv => by
  rw [h.cell]
  have hi : i < xs.length := (List.getElem?_eq_some_iff.1 hv).1
  rw [← hx, List.getElem?_take_of_lt hi, List.getElem?_drop] at hv
  simpa using hv
end
theorem below_new (W : World) (o : Obj) : Below W.heap.size W (W.alloc o) := (Below.refl _ W).alloc (Nat.le_refl _) _
theorem below_drew (W : World) : Below W.heap.size W W.drew := below_drewN (Below.refl _ W) 1
theorem grown_setRow (W : World) (g : Nat) (cs : Array Value) : W.grownBy (W.setRow g cs) (some g) :=
  ⟨rfl, rfl, rfl, by simp [World.setRow], fun i _ hne => setRow_other W g i cs (fun e => hne (by rw [e]))⟩
/-- What became of the world since the call began, behind a store at a block of the call's own. -/
theorem below_far {B : Nat} {w W W' : World} {g : Nat} (h : Below B w W) (hB : B ≤ W.heap.size) (hg : B ≤ g) (hb : W.grownBy W' (some g)) : Below B w W' :=
  h.grown hb hB (fun k hk => by cases hk; exact hg)
theorem below_step {w W W' : World} (h : Below w.heap.size w W) (hb : Below W.heap.size W W') : Below w.heap.size w W' := h.trans (hb.mono h.size)

section
variable {ops : Array Oper} {o : Oper} {a : Act} {w : World} {K : Act → World → Prop} {Q : Exit → Act → World → Prop} {rest : List Oper} {g : Nat} {t ty : TypeId} {cs : Array Value}
/-- The whole of a struct or an array is loaded. -/
theorem wp_loadA (hb : Blk w g t cs) (ha : aggT ty cs.size = true) (x : Operand) (ho : o.op = .load ty x) (hx : a.eval x = .pointer (some ⟨g, 0, none⟩)) (h : K (a.put o.dst (.agg cs)) w) : Oper.wp Tryz.prog o a w K Q := by
  obtain ⟨d, hu, hd⟩ := aggT_und ha
  exact wp_load_row _ x ho g hx _ cs (0, 0) d hb hu (by cases d <;> first | rfl | exact hd) (aggT_size ha) h
/-- A struct in the midst of a block is loaded. -/
theorem wp_loadM (hb : Blk w g t cs) {xs : Array Value} {j : Nat} (ha : aggT ty xs.size = true) (x : Operand) (ho : o.op = .load ty x) (hx : a.eval x = .pointer (some ⟨g, j, none⟩)) (hv : (cs.toList.drop j).take xs.toList.length = xs.toList) (h : K (a.put o.dst (.agg xs)) w) : Oper.wp Tryz.prog o a w K Q := by
  obtain ⟨d, hu, hd⟩ := aggT_und ha
  exact wp_load_mid ty x ho g j hx xs.toList d (hb.range j xs.toList hv) hu hd (by rw [aggT_size ha, Array.length_toList]) h
theorem run_loadVar_cell {ad : Addr} {v : Value} (hc : cellT ty = true) (h : w.cell? ad = some v) : (loadVar ty ad).run Tryz.prog w = .ok v w := by
  unfold cellT at hc
  cases hu : Tryz.prog.underlying ty with
  | none => rw [hu] at hc; cases hc
  | some d =>
    rw [hu] at hc
    have hagg : (isAgg ty).run Tryz.prog w = .ok false w := by
      unfold isAgg
      rw [Sem.run_bind, run_underlying hu w]
      cases d <;> simp_all [TypeDesc.isRow]
    simp [loadVar, Sem.run_bind, hagg, h]
/-- One cell is loaded. -/
theorem wp_loadC (hb : Blk w g t cs) (hc : cellT ty = true) (x : Operand) (ho : o.op = .load ty x) {j : Nat} {v : Value} (hx : a.eval x = .pointer (some ⟨g, j, none⟩)) (hv : cs[j]? = some v) (h : K (a.put o.dst v) w) : Oper.wp Tryz.prog o a w K Q := by
  have e := run_loadVar_cell (w := w) hc (hb.at hv)
  unfold Oper.wp execOp
  simp only [ho, hx, Instr.loadAt, Instr.sureAddr, Sem.run_bind, Sem.run_pure, Result.andThen_ok, e]
  exact h
/-- The whole of a struct or an array is stored. -/
theorem wp_storeA (hb : Blk w g t cs) {xs : Array Value} (x y : Operand) (ho : o.op = .store ty x y) (hx : a.eval x = .pointer (some ⟨g, 0, none⟩)) (hy : a.eval y = .agg xs) (ha : aggT ty xs.size = true) (hs : xs.size = cs.size) (h1 : xs.toList.all (·.oneCell') = true)
    (hd : o.dst = none) (h : ∀ W, Blk W g t xs → w.grownBy W (some g) → K a W) : Oper.wp Tryz.prog o a w K Q :=
  wp_store_row _ x y ho g xs hx hy _ cs hb (aggT_size ha) hs.symm (by rw [← Array.all_toList]; exact h1) (by rw [hd]; exact h _ (setRow_heap w g cs xs t (0, 0) hb) (grown_setRow w g _))
/-- One cell is stored. -/
theorem wp_storeC (hb : Blk w g t cs) {j : Nat} {v : Value} (x y : Operand) (ho : o.op = .store ty x y) (hx : a.eval x = .pointer (some ⟨g, j, none⟩)) (hy : a.eval y = v) (h1 : v.oneCell' = true) (hz : (Tryz.prog.info? ty).map (·.size) = some 1) (hj : j < cs.size)
    (hd : o.dst = none) (h : ∀ W, Blk W g t (cs.setIfInBounds j v) → w.grownBy W (some g) → K a W) : Oper.wp Tryz.prog o a w K Q := by
  have hb' : w.heap[g]? = some (.cells cs t (0, 0)) := hb
  have hW : w.grownBy (w.setCell ⟨g, j, none⟩ v) (some g) := by rw [setCell_eq_setRow w g j cs t (0, 0) v hb']; exact grown_setRow w g _
  have h2 := h _ (heap_setCell_same w g j cs t v hb') hW
  have hcell : w.cell? ⟨g, j, none⟩ = some cs[j] := hb.at (Array.getElem?_eq_getElem hj)
  have hfree := hb.free j
  have hcs : v.cells = #[v] := by
    cases v <;> first | rfl | (simp [Value.oneCell'] at h1)
  have e : (storeVar ty ⟨g, j, none⟩ v).run Tryz.prog w = .ok () (w.setCell ⟨g, j, none⟩ v) := by
    cases hq : Tryz.prog.info? ty with
    | none => simp [hq] at hz
    | some i =>
      have hs : i.size = 1 := by simpa [hq] using hz
      have hst : (storeCells ⟨g, j, none⟩ [v]).run Tryz.prog w = .ok () (w.setCell ⟨g, j, none⟩ v) := by
        have := run_storeCells_cells (P := Tryz.prog) g j [v] 0 w (fun k hk => by
          have : k = 0 := by simpa using hk
          subst this; simp [hcell]) (fun k hk => by
          have : k = 0 := by simpa using hk
          subst this; simpa using hfree) (fun u hu => by simp at hu; rw [hu]; exact h1)
        simpa [World.setCells] using this
      simp [storeVar, sizeOf, typeInfo, hq, hcs, hs, hst]
  unfold Oper.wp execOp
  simp only [ho, hx, hy, Instr.storeAt, Instr.sureAddr, Sem.run_bind, Sem.run_pure, Result.andThen_ok, e]
  rw [← show a.put o.dst undef = a by rw [hd]; rfl] at h2
  exact h2
/-- A variable is made. -/
theorem wp_allocA {d : Option Tmp} (hz : (Tryz.prog.info? ty).bind (·.zero) = some (.agg cs)) (ho : o.op = .alloc ty) (hd : o.dst = d) (h : ∀ W, Blk W w.heap.size ty cs → Below w.heap.size w W → K (a.put d (.pointer (some ⟨w.heap.size, 0, none⟩))) W) : Oper.wp Tryz.prog o a w K Q := by
  have h1 := h _ (Blk.new w ty cs) (below_new w _)
  cases hq : Tryz.prog.info? ty with
  | none => simp [hq] at hz
  | some i =>
    have hzz : i.zero = some (.agg cs) := by simpa [hq] using hz
    unfold Oper.wp execOp
    simp only [ho]
    subst hd
    simp [Instr.alloc, newVar, newRow, newObj, zeroValue, typeInfo, hq, hzz, Value.cells]
    exact h1
theorem wp_boxA (x : Operand) (ho : o.op = .box ty x) (hx : a.eval x = .agg cs) (h : ∀ W, Blk W w.heap.size ty cs → Below w.heap.size w W → K (a.put o.dst (.pointer (some ⟨w.heap.size, 0, none⟩))) W) : Oper.wp Tryz.prog o a w K Q := by
  have h1 := h _ (Blk.new w ty cs) (below_new w _)
  unfold Oper.wp execOp
  simp only [ho, hx]
  simp [Instr.box, newVar, newRow, newObj, Value.cells]
  exact h1
theorem st_of {E : Prop} (hgd : o.guard = none) (h : Oper.wp Tryz.prog o a w K Q) : if Region.wanted o (yielded ops a.tmps) = true then Oper.wp Tryz.prog o a w K Q else E := by
  have hw : Region.wanted o (yielded ops a.tmps) = true := by simp [Region.wanted, hgd]
  rw [if_pos hw]
  exact h
theorem wl_of (hw : Region.wanted o (yielded ops a.tmps) = true) (h : ∀ K : Act → World → Prop, (∀ a w, wpList Tryz.prog ops Q rest a w → K a w) → Oper.wp Tryz.prog o a w K Q) : wpList Tryz.prog ops Q (o :: rest) a w := Go.BigFrame.wpList_want hw h
end
section
variable {ops : Array Oper} {o : Oper} {a : Act} {w : World} {Q : Exit → Act → World → Prop} {rest : List Oper} {g : Nat} {t ty : TypeId} {cs : Array Value}
theorem wl_loadA (hb : Blk w g t cs) (hw : Region.wanted o (yielded ops a.tmps) = true) (ha : aggT ty cs.size = true) (x : Operand) (ho : o.op = .load ty x) (hx : a.eval x = .pointer (some ⟨g, 0, none⟩)) (h : wpList Tryz.prog ops Q rest (a.put o.dst (.agg cs)) w) : wpList Tryz.prog ops Q (o :: rest) a w :=
  wl_of hw fun _ hK => wp_loadA hb ha x ho hx (hK _ _ h)
theorem wl_loadM (hb : Blk w g t cs) (hw : Region.wanted o (yielded ops a.tmps) = true) {xs : Array Value} {j : Nat} (ha : aggT ty xs.size = true) (x : Operand) (ho : o.op = .load ty x) (hx : a.eval x = .pointer (some ⟨g, j, none⟩)) (hv : (cs.toList.drop j).take xs.toList.length = xs.toList) (h : wpList Tryz.prog ops Q rest (a.put o.dst (.agg xs)) w) : wpList Tryz.prog ops Q (o :: rest) a w :=
  wl_of hw fun _ hK => wp_loadM hb ha x ho hx hv (hK _ _ h)
theorem wl_loadC (hb : Blk w g t cs) (hw : Region.wanted o (yielded ops a.tmps) = true) (hc : cellT ty = true) (x : Operand) (ho : o.op = .load ty x) {j : Nat} {v : Value} (hx : a.eval x = .pointer (some ⟨g, j, none⟩)) (hv : cs[j]? = some v) (h : wpList Tryz.prog ops Q rest (a.put o.dst v) w) : wpList Tryz.prog ops Q (o :: rest) a w :=
  wl_of hw fun _ hK => wp_loadC hb hc x ho hx hv (hK _ _ h)
theorem wl_storeA (hb : Blk w g t cs) (hw : Region.wanted o (yielded ops a.tmps) = true) {xs : Array Value} (x y : Operand) (ho : o.op = .store ty x y) (hx : a.eval x = .pointer (some ⟨g, 0, none⟩)) (hy : a.eval y = .agg xs) (ha : aggT ty xs.size = true) (hs : xs.size = cs.size) (h1 : xs.toList.all (·.oneCell') = true)
    (hd : o.dst = none) (h : ∀ W, Blk W g t xs → w.grownBy W (some g) → wpList Tryz.prog ops Q rest a W) : wpList Tryz.prog ops Q (o :: rest) a w :=
  wl_of hw fun _ hK => wp_storeA hb x y ho hx hy ha hs h1 hd (fun W h2 h3 => hK _ _ (h W h2 h3))
theorem wl_storeC (hb : Blk w g t cs) (hw : Region.wanted o (yielded ops a.tmps) = true) {j : Nat} {v : Value} (x y : Operand) (ho : o.op = .store ty x y) (hx : a.eval x = .pointer (some ⟨g, j, none⟩)) (hy : a.eval y = v) (h1 : v.oneCell' = true) (hz : (Tryz.prog.info? ty).map (·.size) = some 1) (hj : j < cs.size)
    (hd : o.dst = none) (h : ∀ W, Blk W g t (cs.setIfInBounds j v) → w.grownBy W (some g) → wpList Tryz.prog ops Q rest a W) : wpList Tryz.prog ops Q (o :: rest) a w :=
  wl_of hw fun _ hK => wp_storeC hb x y ho hx hy h1 hz hj hd (fun W h2 h3 => hK _ _ (h W h2 h3))
theorem wl_allocA (hw : Region.wanted o (yielded ops a.tmps) = true) (hz : (Tryz.prog.info? ty).bind (·.zero) = some (.agg cs)) (ho : o.op = .alloc ty) (h : ∀ W, Blk W w.heap.size ty cs → Below w.heap.size w W → wpList Tryz.prog ops Q rest (a.put o.dst (.pointer (some ⟨w.heap.size, 0, none⟩))) W) : wpList Tryz.prog ops Q (o :: rest) a w :=
  wl_of hw fun _ hK => wp_allocA hz ho rfl (fun W h2 h3 => hK _ _ (h W h2 h3))
theorem wl_boxA (hw : Region.wanted o (yielded ops a.tmps) = true) (x : Operand) (ho : o.op = .box ty x) (hx : a.eval x = .agg cs) (h : ∀ W, Blk W w.heap.size ty cs → Below w.heap.size w W → wpList Tryz.prog ops Q rest (a.put o.dst (.pointer (some ⟨w.heap.size, 0, none⟩))) W) : wpList Tryz.prog ops Q (o :: rest) a w :=
  wl_of hw fun _ hK => wp_boxA x ho hx (fun W h2 h3 => hK _ _ (h W h2 h3))
end
/-- What a load in a region yields. -/
theorem yields_A {P : Program} {ops : Array Oper} {S : World → Prop} {o : Oper} {a : Act} {g : Nat} {t ty : TypeId} {cs : Array Value} (hP : P = Tryz.prog) (hw : Region.wanted o (yielded ops a.tmps) = true) (ha : aggT ty cs.size = true) (x : Operand) (ho : o.op = .load ty x) (hx : a.eval x = .pointer (some ⟨g, 0, none⟩))
    (hS : ∀ W, S W → Blk W g t cs) : YieldsIf P ops S o (.agg cs) a := by
  subst hP
  refine .inl ⟨hw, fun W hW => ?_⟩
  obtain ⟨d, hu, hd⟩ := aggT_und ha
  have e := run_loadVar_row (P := Tryz.prog) W g _ ty cs (0, 0) d (hS W hW) hu (by cases d <;> first | rfl | exact hd) (aggT_size ha)
  unfold execOp
  simp only [ho, hx, Instr.loadAt, Instr.sureAddr, Sem.run_bind, Sem.run_pure, Result.andThen_ok, e]
theorem yields_C {P : Program} {ops : Array Oper} {S : World → Prop} {o : Oper} {a : Act} {g : Nat} {t ty : TypeId} {cs : Array Value} (hP : P = Tryz.prog) (hw : Region.wanted o (yielded ops a.tmps) = true) (hc : cellT ty = true) (x : Operand) (ho : o.op = .load ty x) {j : Nat} {v : Value} (hx : a.eval x = .pointer (some ⟨g, j, none⟩)) (hv : cs[j]? = some v)
    (hS : ∀ W, S W → Blk W g t cs) : YieldsIf P ops S o v a := by
  subst hP
  refine .inl ⟨hw, fun W hW => ?_⟩
  have e := run_loadVar_cell (w := W) hc ((hS W hW).at hv)
  unfold execOp
  simp only [ho, hx, Instr.loadAt, Instr.sureAddr, Sem.run_bind, Sem.run_pure, Result.andThen_ok, e]
/-- Number i is taken first; where it writes is said. -/
theorem takeH {P : Program} {md : Region.Mode} {ops : Array Oper} {Q : Exit → Act → World → Prop} {S : World → Prop} {i : Nat} {oi : Oper} {d : Option Tmp} {v : Value} {fuel : Nat} {listed : Array Bool} {a : Act} {w : World} (hi : ops[i]? = some oi) (hd : oi.dst = d)
    (hs : Region.noSelect ops = true) (hf : Region.free md ops listed i = true) (hr : (Region.ready md ops listed).contains i = true)
    (hQ : ∀ c a w, Q (.panic c) (a.put oi.dst v) w → Q (.panic c) a w) (hy : YieldsIf P ops S oi v a) (hS : S w)
    (h : wpAnyH P md ops Q S fuel (listed.setIfInBounds i true) (a.put d v) w) : wpAnyH P md ops Q S (fuel + 1) listed a w :=
  wpAnyH_take hi hs hf hr hQ hy hS (by rw [hd]; exact h)
/-- The result lies in a block of its own. -/
theorem res_cell {fn : Func} {p : Tmp} {ty : TypeId} {t : TypeId} {cs : Array Value} {g : Nat} {W : World} (hf : fn.results = #[.cell p ty]) {tmps : Array Value} (hb : Blk W g t cs) (ha : aggT ty cs.size = true) (hp : tmps.getD p undef = .pointer (some ⟨g, 0, none⟩)) : (results fn tmps).run Tryz.prog W = .ok (.agg cs) W := by
  obtain ⟨d, hu, hd⟩ := aggT_und ha
  exact results_cell_row hf tmps W g t cs (0, 0) d hp hb hu (by cases d <;> first | rfl | exact hd) (aggT_size ha)
theorem res_cell_tmp {fn : Func} {p q : Tmp} {ty : TypeId} {t : TypeId} {cs : Array Value} {g : Nat} {W : World} (hf : fn.results = #[.cell p ty, .tmp q]) {tmps : Array Value} (hb : Blk W g t cs) (ha : aggT ty cs.size = true) (hp : tmps.getD p undef = .pointer (some ⟨g, 0, none⟩)) {v : Value} (hq : tmps.getD q undef = v) : (results fn tmps).run Tryz.prog W = .ok (.tuple #[.agg cs, v]) W := by
  obtain ⟨d, hu, hd⟩ := aggT_und ha
  have hp' : tmps[p]?.getD undef = .pointer (some ⟨g, 0, none⟩) := by simpa using hp
  have hq' : tmps[q]?.getD undef = v := by simpa using hq
  have e := run_loadVar_row (P := Tryz.prog) W g t ty cs (0, 0) d hb hu (by cases d <;> first | rfl | exact hd) (aggT_size ha)
  simp [results, hf, hp', hq', asAddr, e]
end Go.Proofs.YthmmjihldkjhhaaGreatDoor
