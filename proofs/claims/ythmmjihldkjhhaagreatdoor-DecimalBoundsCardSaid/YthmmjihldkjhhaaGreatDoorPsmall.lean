/-
  Numbers of 24 elements: what 'small' returns.
-/
import Derived.Test.YthmmjihldkjhhaaGreatDoorPcmp
namespace Go.Proofs.YthmmjihldkjhhaaGreatDoor
open Go Go.RowKit

/-- The first number that has no room. -/
def top : Nat := 1000000000 ^ 24
theorem infoNum : (Tryz.prog.info? 61).map (·.size) = some 24 := by kernel_rfl
theorem undNum : Tryz.prog.underlying 61 = some (.array 24 59) := by kernel_rfl
theorem numV_one (l : List Nat) : (numV l).all (·.oneCell') = true := by
  rw [Array.all_eq_true']; intro x hx
  simp [numV] at hx
  obtain ⟨n, _, rfl⟩ := hx
  rfl
theorem wp_loadN {ops : Array Oper} {rest : List Oper} {o : Oper} {a : Act} {w : World} {Q : Exit → Act → World → Prop} {g : Nat} {l : List Nat} (hr : Row24 w g l) (hgd : o.guard = none) (x : Operand) (ho : o.op = .load 61 x)
    (hx : a.eval x = .pointer (some ⟨g, 0, none⟩)) (h : wpList Tryz.prog ops Q rest (a.put o.dst (.agg (numV l))) w) : wpList Tryz.prog ops Q (o :: rest) a w :=
  wpList_load_row hgd _ x ho g hx _ (numV l) (0, 0) _ hr.row undNum rfl (by rw [infoNum, numV_size, hr.len]) h
theorem wp_storeN {ops : Array Oper} {rest : List Oper} {o : Oper} {a : Act} {w : World} {Q : Exit → Act → World → Prop} {g : Nat} {l m : List Nat} (hr : Row24 w g l) (hm : m.length = 24) (hgd : o.guard = none) (x y : Operand) (ho : o.op = .store 61 x y)
    (hx : a.eval x = .pointer (some ⟨g, 0, none⟩)) (hy : a.eval y = .agg (numV m)) (h : wpList Tryz.prog ops Q rest (a.put o.dst undef) (w.setRow g (numV m))) : wpList Tryz.prog ops Q (o :: rest) a w :=
  wpList_store_row hgd _ x y ho g (numV m) hx hy _ (numV l) hr.row (by rw [infoNum, numV_size, hm]) (by rw [numV_size, numV_size, hr.len, hm]) (numV_one m) h
theorem Row24.set {W : World} {g : Nat} {l m : List Nat} (h : Row24 W g l) (hm : m.length = 24) : Row24 (W.setRow g (numV m)) g m := ⟨setRow_heap W g _ _ _ _ h.row, hm⟩
theorem below_setRow {n : Nat} {w w' : World} (h : Below n w w') {g : Nat} (hg : n ≤ g) (cs : Array Value) : Below n w (w'.setRow g cs) :=
  ⟨h.os, h.tape, h.output, by rw [setRow_size]; exact h.size, fun k hk => (setRow_other w' g k cs (by omega)).trans (h.block k hk)⟩
theorem Row24.result {W : World} {g : Nat} {l : List Nat} (h : Row24 W g l) {fn : Func} {p : Tmp} (hf : fn.results = #[.cell p 61]) {tmps : Array Value} (hp : tmps.getD p undef = .pointer (some ⟨g, 0, none⟩)) : (results fn tmps).run Tryz.prog W = .ok (.agg (numV l)) W :=
  results_cell_row hf tmps W g _ (numV l) (0, 0) _ hp h.row undNum rfl (by rw [infoNum, numV_size, h.len])
/-- One step of a carrying loop. -/
theorem step_take {O : List Nat} {k : Nat} (hO : O.length = 24) (hk : k < 24) (x : Nat) : Dc.valB ((O.set k x).take (k + 1)) = Dc.valB (O.take k) + 1000000000 ^ k * x := by
  rw [Dc.valB_take (by rw [List.length_set]; omega), List.take_set, List.set_eq_of_length_le (by rw [List.length_take]; omega), List.getD_eq_getElem?_getD, List.getElem?_set_self (by omega)]; rfl

set_option maxRecDepth 100000 in
set_option maxHeartbeats 2000000 in
theorem psmall_any (a : List Nat) (ha : Num a) (by_ more : Nat) (h1 : by_ < 1000000000) (h2 : more < 1000000000) (w : World) : Calls Tryz.prog 77 #[.agg (numV a), .int .u32 (by_ : Int), .int .u32 (more : Int)] w fun e w' => (∃ O : List Nat, e = .returned (.agg (numV O)) ∧ Num O ∧ Dc.valB O = (Dc.valB a * by_ + more) % top) ∧ Below w.heap.size w w' := by
  have HA : Hid _ := Lib.hid ha
  have r1 : Row24 ((w.alloc (.cells (numV a) 61)).alloc (.cells (numV (List.replicate 24 0)) 61)) w.heap.size a := (Row24.new w a ha.len).old _
  have r2 : Row24 ((w.alloc (.cells (numV a) 61)).alloc (.cells (numV (List.replicate 24 0)) 61)) (w.heap.size + 1) (List.replicate 24 0) := by
    have := Row24.new (w.alloc (.cells (numV a) 61)) (List.replicate 24 0) rfl
    rwa [show (w.alloc (.cells (numV a) 61)).heap.size = w.heap.size + 1 from Array.size_push _] at this
  have b0 : Below w.heap.size w ((w.alloc (.cells (numV a) 61)).alloc (.cells (numV (List.replicate 24 0)) 61)) := ((Below.refl _ w).alloc (Nat.le_refl _) _).alloc (((Below.refl _ w).alloc (Nat.le_refl _) _).size) _
  have R1 : Hid _ := Lib.hid r1
  have R2 : Hid _ := Lib.hid r2
  have B0 : Hid _ := Lib.hid b0
  clear ha r1 r2 b0
  go_enter Tryz.func77, Tryz.ntmps77
  go_wp2
  go_loopw [7, 12] (fun c i wr => ∃ (k cy : Nat) (O : List Nat), k ≤ 24 ∧ i = .int .i64 (k : Int) ∧ c = .int .u64 (cy : Int) ∧ cy < 1000000000 ∧ Hid (∀ d ∈ O.take k, d < 1000000000) ∧ Hid (Dc.valB (O.take k) + 1000000000 ^ k * cy = Dc.valB (a.take k) * by_ + more) ∧ Hid (O.drop k = a.drop k) ∧ Row24 wr w.heap.size O ∧ Row24 wr (w.heap.size + 1) (List.replicate 24 0) ∧ Below w.heap.size w wr) (fun _ i _ => 24 - (intOf i).toNat)
  case atStart => exact ⟨0, more, a, Nat.zero_le _, rfl, rfl, h2, Lib.hid (by simp), Lib.hid (by simp [Dc.valB]), Lib.hid rfl, R1.out, R2.out, B0.out⟩
  case round =>
    obtain ⟨k, cy, O, hk, rfl, rfl, hcy, hlow, hval, hdr, hr1, hr2, hB⟩ := hrel
    by_cases hk24 : k = 24
    · subst hk24
      have hO : O.take 24 = O := List.take_of_length_le (by rw [hr1.len]; exact Nat.le_refl _)
      have ha : a.take 24 = a := List.take_of_length_le (by rw [HA.out.len]; exact Nat.le_refl _)
      have hN : Hid (Num O) := Lib.hid ⟨hr1.len, by have := hlow.out; rwa [hO] at this⟩
      have hV : Hid (Dc.valB O = (Dc.valB a * by_ + more) % top) := Lib.hid (by
        have h3 := hval.out
        rw [hO, ha] at h3
        rw [← h3, top, Nat.add_mul_mod_self_left, Nat.mod_eq_of_lt]
        have := Dc.valB_lt hN.out.low
        rwa [hr1.len] at this)
      have hl := hr1.len
      have R3 : Hid _ := Lib.hid (hr2.set hr1.len)
      clear hO ha hk hlow hval hdr
      go_wp2_with (first
        | (refine wp_loadN hr1 rfl _ rfl rfl ?_)
        | (refine wp_storeN hr2 hl rfl _ _ rfl rfl rfl ?_))
      (try simp only [Exit.inBlock, Exit.then]); refine bodyPost_ret (R3.out.result rfl rfl) rfl ?_
      exact ⟨⟨O, rfl, hN.out, hV.out⟩, below_setRow hB (by omega) _⟩
    · have hk' : k < 24 := by omega
      have c1 := hr1.cell hk'
      have f1 := hr1.open (j := k)
      have j0 : (0 : Int) ≤ (k : Int) := by omega
      have j1 : (k : Int) < 24 := by omega
      obtain ⟨x, hx⟩ : ∃ x, a.getD k 0 = x := ⟨_, rfl⟩
      have hxl : x < 1000000000 := by rw [← hx]; exact HA.out.at k
      have hOx : O.getD k 0 = x := by
        have := congrArg (fun l => l.getD 0 0) hdr.out
        simp only [List.getD_eq_getElem?_getD, List.getElem?_drop, Nat.add_zero] at this
        rw [← hx, List.getD_eq_getElem?_getD, List.getD_eq_getElem?_getD]; exact this
      rw [hOx] at c1
      obtain ⟨p, hp⟩ : ∃ p, x * by_ = p := ⟨_, rfl⟩
      have hpl : p ≤ 999999999 * 999999999 := by rw [← hp]; exact Nat.mul_le_mul (by omega) (by omega)
      have hpi : (x : Int) * (by_ : Int) = (p : Int) := by rw [← hp]; push_cast; rfl
      obtain ⟨v, hv⟩ : ∃ v, p + cy = v := ⟨_, rfl⟩
      have hvl : v ≤ 999999999 * 1000000000 := by omega
      have hvi : (p : Int) + (cy : Int) = (v : Int) := by omega
      have hval2 : Hid (Dc.valB ((O.set k (v % 1000000000)).take (k + 1)) + 1000000000 ^ (k + 1) * (v / 1000000000) = Dc.valB (a.take (k + 1)) * by_ + more) := Lib.hid (by
        rw [step_take hr1.len hk', Dc.valB_take (by rw [HA.out.len]; exact hk'), hx, Nat.add_mul, Nat.mul_assoc, hp, Nat.pow_succ, Nat.mul_assoc, Nat.add_assoc, ← Nat.mul_add, Nat.mod_add_div]
        have := hval.out
        rw [← hv, Nat.mul_add]; omega)
      have hlow2 : Hid (∀ d ∈ (O.set k (v % 1000000000)).take (k + 1), d < 1000000000) := Lib.hid (by
        intro d hd
        rw [List.take_add_one, List.take_set, List.set_eq_of_length_le (by rw [List.length_take]; omega), List.getElem?_set_self (by rw [hr1.len]; exact hk')] at hd
        rcases List.mem_append.1 hd with h | h
        · exact hlow.out d h
        · simp at h; rw [h]; exact Nat.mod_lt _ (by decide))
      have hdr2 : Hid ((O.set k (v % 1000000000)).drop (k + 1) = a.drop (k + 1)) := Lib.hid (by
        have h5 := congrArg (List.drop 1) hdr.out
        rw [List.drop_drop, List.drop_drop] at h5
        rw [List.drop_set, if_pos (by omega)]; exact h5)
      clear hx hOx hp hv hlow hval hdr hk24
      go_wp2
      go_roundw
      case rel => exact ⟨k + 1, v / 1000000000, O.set k (v % 1000000000), by omega, rfl, by simp, by omega, hlow2, hval2, hdr2, hr1.put k _, hr2.apart (by omega) k _, hB.setCell (p := ⟨w.heap.size, k, none⟩) (Nat.le_refl _) _⟩
      case measure => simp [intOf]; omega
end Go.Proofs.YthmmjihldkjhhaaGreatDoor
