/-
  What all texts of this seat stand on: bytes and strings as lists of numbers, rows of bytes that the call has made, the builder. No condition.
-/
import Derived.Test.YthmmjihldkjhhaaGreatDoorProg
import Derived.WalkKit
import Derived.WalkLawsBesides
import Derived.WalkSpells
import Derived.LoopTactic
import Derived.Outline
import Derived.LoopN
import Derived.Deep.Light
import Derived.Lib.Hide
import Derived.Laws.Rows
import Derived.Laws.AppendOwn
import Derived.OwnWalk
import Derived.Laws.BitsLemmas
import Derived.Laws.Shifts
import Derived.Deep.DeepMust
import Derived.Laws.BytesString
import Derived.Laws.Cells
import Derived.Deep.QuietTactic
import Derived.BigQuiet
import Derived.WalkSmall
import Derived.Lib.ConvBytes
import Derived.Lib.Builder
import Derived.Lib.Slices
import Derived.Lib.Walk
import Derived.Lib.Strings
import Derived.Laws.Externs
import Derived.Laws.IdiomCopy
namespace Go.Proofs.YthmmjihldkjhhaaGreatDoor
open Go Go.RowKit

theorem ret_bool {a b : Bool} (h : a = b) : Ending.returned (.bool a) = .returned (.bool b) := by rw [h]

/-- Numbers as bytes. -/
def u8s (l : List Nat) : List Value := l.map fun n : Nat => Value.int .u8 (n : Int)
def u8i (l : List Int) : List Value := l.map fun n : Int => Value.int .u8 n
theorem u8i_nat (l : List Nat) : u8i (l.map fun n : Nat => (n : Int)) = u8s l := by simp [u8i, u8s]
theorem u8s_length (l : List Nat) : (u8s l).length = l.length := List.length_map _
theorem u8s_append (l m : List Nat) : u8s (l ++ m) = u8s l ++ u8s m := List.map_append

theorem cells_new (w : World) (cs : Array Value) (e : TypeId) : ∀ j u, cs.toList[j]? = some u → (w.alloc (.cells cs e)).cell? ((⟨w.heap.size, 0, none⟩ : Addr).add j) = some u := by
  intro j u h
  have h' : cs[j]? = some u := by simpa using h
  have hb : ((⟨w.heap.size, 0, none⟩ : Addr).add j) = ⟨w.heap.size, j, none⟩ := by
    unfold Addr.add; split
    · rename_i h0; rw [h0]
    · simp
  rw [hb]
  show (match (w.heap.push (.cells cs e))[w.heap.size]? with | some (.cells c _ _) => if (none : Option Nat).isSome then none else c[j]? | _ => none) = some u
  rw [Array.getElem?_push_size]
  simpa using h'

theorem grownBy_alloc {w w1 : World} {o : Obj} {row : Option Nat} (h : (w.alloc o).grownBy w1 row) : w.grownBy w1 row :=
  ⟨h.os, h.tape, h.output, by have := h.size; simp at this; omega, fun k hk hr => (h.block k (by simp; omega) hr).trans (Below.heap_alloc w o k hk)⟩
theorem Tryz.info5 : (Tryz.prog.info? 5).map (fun i => (i.zero, i.size, i.bytes)) = some (some (.int .u8 0), 1, 1) := by kernel_rfl

/-- The string of bytes. -/
def str (l : List Nat) : ByteArray := ⟨(l.map UInt8.ofNat).toArray⟩
def strI (l : List Int) : ByteArray := ⟨(l.map fun n : Int => UInt8.ofNat n.toNat).toArray⟩
theorem strI_nat (l : List Nat) : strI (l.map fun n : Nat => (n : Int)) = str l := by simp [strI, str]
theorem foldl_push (l : List Int) : ∀ r : ByteArray, l.foldl (fun r n => r.push (UInt8.ofNat n.toNat)) r = ⟨(r.data.toList ++ l.map fun n : Int => UInt8.ofNat n.toNat).toArray⟩ := by
  induction l with
  | nil => intro r; simp
  | cons n l ih => intro r; rw [List.foldl_cons, ih]; simp [ByteArray.push]

theorem run_str (w : World) (a : Addr) (cap : Nat) (l : List Int) (h : ∀ j v, (u8i l)[j]? = some v → w.cell? (a.add j) = some v) :
    (convert 58 9 (.slice (some a) l.length cap)).run Tryz.prog w = .ok (.string (strI l)) w := by
  rw [run_convert_bytes_string w 58 9 5 (some a) l.length cap Tryz.underlying58 Tryz.underlying5 Tryz.underlying9]
  rw [run_bytesToString w a l.length cap l]
  · rw [foldl_push]; rfl
  · have := run_loadCells_list (P := Tryz.prog) (w := w) a (u8i l) h
    simpa [u8i] using this

theorem run_str_new (w : World) (l : List Int) (cap : Nat) :
    (convert 58 9 (.slice (some ⟨w.heap.size, 0, none⟩) l.length cap)).run Tryz.prog (w.alloc (.cells (u8i l).toArray 5)) = .ok (.string (strI l)) (w.alloc (.cells (u8i l).toArray 5)) :=
  run_str _ _ _ l (fun j v h => cells_new w (u8i l).toArray 5 j v (by simpa using h))

theorem run_str_own {w : World} {B : Nat} {v : Value} {l : List Int} {n : Nat} (h : w.ownsRow B 5 1 v n (u8i l)) :
    (convert 58 9 v).run Tryz.prog w = .ok (.string (strI l)) w := by
  obtain ⟨hl, ⟨rfl, rfl⟩ | ⟨g, cap, cur, rfl, hB, hg, hn, hc, hz, ht⟩⟩ := h
  · have : l = [] := by simpa [u8i] using hl
    subst this
    rw [run_convert_bytes_string w 58 9 5 none 0 0 Tryz.underlying58 Tryz.underlying5 Tryz.underlying9]; rfl
  · have hln : n = l.length := by simp [u8i] at hl; omega
    subst hln
    refine run_str w _ cap l (fun j u hj => ?_)
    have hj' : cur[j]? = some u := by
      rw [← ht] at hj
      rw [List.getElem?_take] at hj
      split at hj
      · simpa using hj
      · cases hj
    have hb : ((⟨g, 0, none⟩ : Addr).add j) = ⟨g, j, none⟩ := by
      unfold Addr.add; split
      · rename_i h0; rw [h0]
      · simp
    rw [hb]
    simp [World.cell?, hg, hj']
/-- A string's bytes as numbers. -/
def bts (s : ByteArray) : List Nat := s.data.toList.map (·.toNat)
/-- Byte number i, 0 beyond the end. -/
def gb (s : ByteArray) (i : Nat) : Nat := (bts s).getD i 0
theorem bts_length (s : ByteArray) : (bts s).length = s.size := by simp [bts]
theorem byte_eq {s : ByteArray} {i : Nat} (h : i < s.size) : (s[i]'h).toNat = gb s i := by
  unfold gb
  have h' : i < s.data.toList.length := by simpa using h
  have e : (bts s)[i]? = some (s.data.toList[i].toNat) := by simpa [bts] using ⟨_, Array.getElem?_eq_getElem h, rfl⟩
  rw [List.getD_eq_getElem?_getD, e]
  rfl
theorem gb_lt (s : ByteArray) (i : Nat) : gb s i < 256 := by
  by_cases h : i < s.size
  · rw [← byte_eq h]; exact (s[i]'h).toNat_lt
  · unfold gb; rw [List.getD_eq_getElem?_getD, List.getElem?_eq_none (by rw [bts_length]; omega)]; decide
theorem bts_str (l : List Nat) (h : ∀ b ∈ l, b < 256) : bts (str l) = l := by
  unfold bts str
  rw [List.map_map]
  conv => rhs; rw [← List.map_id l]
  refine List.map_congr_left (fun b hb => ?_)
  have := h b hb
  simp; omega
theorem str_bts (s : ByteArray) : str (bts s) = s := by
  unfold bts str
  rw [List.map_map]
  have : (UInt8.ofNat ∘ fun x : UInt8 => x.toNat) = id := by funext x; simp
  rw [this, List.map_id]

theorem isEmpty_no {s : ByteArray} (h : 0 < s.size) : s.toList.isEmpty = false := by
  rw [ByteArray.toList_eq]
  cases hl : s.data.toList with
  | nil =>
    exfalso
    have h0 : s.data.size = 0 := by rw [← Array.length_toList, hl]; rfl
    have h1 : s.size = 0 := h0
    omega
  | cons a l => rfl
theorem isEmpty_yes {s : ByteArray} (h : s.size = 0) : s.toList.isEmpty = true := by
  rw [ByteArray.toList_eq]
  cases hl : s.data.toList with
  | nil => rfl
  | cons a l =>
    exfalso
    have h0 : s.data.size = s.data.toList.length := Array.length_toList.symm
    rw [hl] at h0
    have h1 : s.size = l.length + 1 := h0
    omega
theorem str_size (l : List Nat) : (str l).size = l.length := by simp [str, ByteArray.size]
theorem bts_inj {s t : ByteArray} (h : bts s = bts t) : s = t := by rw [← str_bts s, h, str_bts]
theorem toList_beq (s t : ByteArray) : (s.toList == t.toList) = decide (bts s = bts t) := by
  rw [Bool.eq_iff_iff]
  simp only [beq_iff_eq, decide_eq_true_eq]
  constructor
  · intro h; rw [ByteArray.toList_eq, ByteArray.toList_eq] at h; unfold bts; rw [h]
  · intro h; rw [bts_inj h]
theorem bts_extract (s : ByteArray) (a b : Nat) : bts (s.extract a b) = ((bts s).take b).drop a := by
  unfold bts
  rw [ByteArray.data_extract, Array.toList_extract]
  simp [List.extract, List.map_drop, List.map_take, List.drop_take]
theorem bts_from (s : ByteArray) (p : Nat) : bts (s.extract p s.size) = (bts s).drop p := by
  rw [bts_extract, List.take_of_length_le (by rw [bts_length]; exact Nat.le_refl _)]

theorem grown_of_below {w w' : World} (h : Below w.heap.size w w') : w.grownBy w' none := ⟨h.os, h.tape, h.output, h.size, fun k hk _ => h.block k hk⟩
theorem below_of_grown {w w' : World} (h : w.grownBy w' none) : Below w.heap.size w w' :=
  (Below.refl _ w).grown h (Nat.le_refl _) (fun _ e => by cases e)
theorem below_of_drewN {w w1 : World} {n : Nat} (h : Below (w.drewN n).heap.size (w.drewN n) w1) : Below w.heap.size w w1 := (below_drewN (Below.refl _ w) n).trans h
theorem row_ge {W : World} {base e size n : Nat} {v : Value} {xs : List Value} (h : W.ownsRow base e size v n xs) (k : Nat) (hk : k < base) : some k ≠ v.ownBlock := by
  rcases h.2 with ⟨rfl, _⟩ | ⟨g, cap, cur, rfl, hb, _⟩
  · simp [Value.ownBlock]
  · simp [Value.ownBlock]; omega
theorem row_slice {W : World} {base e size n : Nat} {v : Value} {xs : List Value} (h : W.ownsRow base e size v n xs) : ∃ a cap, v = .slice a n cap := by
  rcases h.2 with ⟨rfl, rfl⟩ | ⟨g, cap, cur, rfl, _⟩
  · exact ⟨_, _, rfl⟩
  · exact ⟨_, _, rfl⟩

theorem own_below {w w1 : World} {base e size n : Nat} {v : Value} {xs : List Value} (h : w.ownsRow base e size v n xs) (hb : Below w.heap.size w w1) : w1.ownsRow base e size v n xs := by
  refine h.kept (grown_of_below hb) ?_
  rcases h.2 with ⟨rfl, _⟩ | ⟨g, cap, cur, rfl, _⟩
  · exact .inl rfl
  · exact .inr (by simp [Value.ownBlock])
theorem u8s_i (l : List Nat) : u8s l = u8i (l.map fun n : Nat => (n : Int)) := (u8i_nat l).symm

theorem strCells_str (l : List Nat) (h : ∀ b ∈ l, b < 256) : Lib.strCells (str l) = u8s l := by
  have e : Lib.strCells (str l) = u8s (bts (str l)) := by simp [Lib.strCells, u8s, bts]
  rw [e, bts_str l h]

theorem bts_take_succ (s : ByteArray) (k : Nat) (h : k < s.size) : (bts s).take (k + 1) = (bts s).take k ++ [(s[k]'h).toNat] := by
  have hl : k < (bts s).length := by rw [bts_length]; exact h
  rw [List.take_succ_eq_append_getElem hl]
  congr 1
  simp only [List.cons.injEq, and_true]
  rw [byte_eq h]; unfold gb
  rw [List.getD_eq_getElem?_getD, List.getElem?_eq_getElem hl]; rfl
theorem beq_no {c k : Nat} (h : c ≠ k) : ((c : Int) == (k : Int)) = false := beq_eq_false_iff_ne.2 (by omega)
theorem bts_all (s : ByteArray) : ∀ b ∈ bts s, b < 256 := by
  intro b hb
  obtain ⟨x, _, rfl⟩ := List.mem_map.1 hb
  exact x.toNat_lt
theorem byteCells_u8 (l : List Nat) (h : ∀ b ∈ l, b < 256) : Lib.byteCells (l.map UInt8.ofNat) = u8s l := by
  unfold Lib.byteCells u8s
  rw [List.map_map]
  refine List.map_congr_left (fun b hb => ?_)
  have := h b hb
  simp; omega
/-- A row of bytes that a conversion has made. -/
def Row8 (W : World) (B cap : Nat) (l : List Nat) : Prop := ∃ cur, W.heap[B]? = some (.cells cur 5 (cap, cap + 1)) ∧ cur.size = cap ∧ l.length ≤ cap ∧ cur.toList.take l.length = u8s l
theorem Row8.lt {W : World} {B cap : Nat} {l : List Nat} (h : Row8 W B cap l) : B < W.heap.size := by
  obtain ⟨cur, h1, _⟩ := h
  exact (Array.getElem?_eq_some_iff.1 h1).1
theorem Row8.at {W : World} {B cap : Nat} {l : List Nat} (h : Row8 W B cap l) {j : Nat} (hj : j < l.length) : W.cell? ⟨B, j, none⟩ = some (.int .u8 (l.getD j 0 : Nat)) := by
  obtain ⟨cur, h1, h2, h3, h4⟩ := h
  have e : (cur.toList.take l.length)[j]? = cur.toList[j]? := List.getElem?_take_of_lt hj
  rw [h4] at e
  have e2 : cur[j]? = some (Value.int .u8 (l.getD j 0 : Nat)) := by
    rw [← Array.getElem?_toList, ← e]
    simp [u8s, hj, List.getD_eq_getElem?_getD]
  simp [World.cell?, h1, e2]
theorem Row8.open {W : World} {B cap : Nat} {l : List Nat} (h : Row8 W B cap l) {j : Nat} (hj : j < l.length) : W.frozen? ⟨B, j, none⟩ = false := by
  obtain ⟨cur, h1, h2, h3, h4⟩ := h
  simp [World.frozen?, h1]; omega
theorem Row8.keep {W W' : World} {B cap : Nat} {l : List Nat} (h : Row8 W B cap l) (hb : Below W.heap.size W W') : Row8 W' B cap l := by
  have := h.lt
  obtain ⟨cur, h1, h2⟩ := h
  exact ⟨cur, (hb.block B this).trans h1, h2⟩
theorem Row8.put {W : World} {B cap : Nat} {l : List Nat} (h : Row8 W B cap l) (j x : Nat) : Row8 (W.setCell ⟨B, j, none⟩ (.int .u8 (x : Int))) B cap (l.set j x) := by
  obtain ⟨cur, h1, h2, h3, h4⟩ := h
  obtain ⟨hlt, hk⟩ := Array.getElem?_eq_some_iff.1 h1
  refine ⟨cur.setIfInBounds j (.int .u8 (x : Int)), ?_, by simp [h2], by simpa using h3, ?_⟩
  · show (W.heap.modify B _)[B]? = _
    rw [Array.getElem?_eq_getElem (by rw [Array.size_modify]; exact hlt), Array.getElem_modify_self, hk]
    rfl
  · rw [Array.toList_setIfInBounds, List.length_set, List.take_set, h4]
    simp [u8s, List.map_set]
theorem Row8.str {W : World} {B cap : Nat} {l : List Nat} (h : Row8 W B cap l) : (convert 58 9 (.slice (some ⟨B, 0, none⟩) l.length cap)).run Tryz.prog W = .ok (.string (str l)) W := by
  have e := run_str W ⟨B, 0, none⟩ cap (l.map fun n : Nat => (n : Int)) (fun j u hj => by
    have hb : ((⟨B, 0, none⟩ : Addr).add j) = ⟨B, j, none⟩ := by
      unfold Addr.add; split
      · rename_i h0; rw [h0]
      · simp
    rw [hb]
    have hj' : j < l.length := by
      have := (List.getElem?_eq_some_iff.1 hj).1
      simpa [u8i] using this
    rw [h.at hj']
    rw [← hj, u8i_nat]; simp [u8s, hj', List.getD_eq_getElem?_getD])
  rw [List.length_map, strI_nat] at e
  exact e
/-- What '[]byte(s)' makes. -/
theorem bytes_row (w : World) (s : ByteArray) : ∃ cap w', (convert 9 58 (.string s)).run Tryz.prog w = .ok (.slice (some ⟨w.heap.size, 0, none⟩) s.size cap) w' ∧ Row8 w' w.heap.size cap (bts s) ∧ Below w.heap.size w w' := by
  refine ⟨_, _, Lib.run_convert_string_bytes w 9 58 5 s Tryz.underlying9 Tryz.underlying58 Tryz.underlying5, ?_, ?_⟩
  · have hle : s.size ≤ grownCap w s.size 0 5 := grownCap_ge _ _ _ _
    have hcs : (Lib.bytesCells w 5 s).size = grownCap w s.size 0 5 := by
      have : s.data.size = s.size := rfl
      simp [Lib.bytesCells, this]; omega
    refine ⟨Lib.bytesCells w 5 s, ?_, hcs, by rw [bts_length]; exact hle, ?_⟩
    · have := Lib.bytesWorld_at_new w 5 s
      rw [hcs] at this
      exact this
    · rw [bts_length]
      have : s.data.toList.length = s.size := rfl
      simp [Lib.bytesCells, bts, u8s, this]
  · exact ⟨rfl, rfl, rfl, by rw [Lib.bytesWorld_size]; omega, fun k hk => Lib.bytesWorld_at_old w 5 s k hk⟩

theorem bts_get (s : ByteArray) (k : Nat) (h : k < s.size) : (bts s)[k]'(by rw [bts_length]; exact h) = (s[k]'h).toNat := by
  simp [bts]; rfl

theorem word_beq (k : ByteArray) (l : List UInt8) : (k.toList == l) = decide (bts k = l.map UInt8.toNat) := by
  rw [ByteArray.toList_eq, Bool.eq_iff_iff]
  simp only [beq_iff_eq, decide_eq_true_eq]
  constructor
  · rintro rfl; rfl
  · intro h; exact (List.map_inj_right (f := UInt8.toNat) (fun _ _ e => UInt8.toNat_inj.1 e)).1 h
theorem head_byte {k : ByteArray} {b : Nat} (h : (bts k).head? = some b) : ∃ hp : 0 < k.size, (k[0]'hp).toNat = b := by
  have hl : 0 < (bts k).length := by
    cases hb : bts k with
    | nil => rw [hb] at h; cases h
    | cons _ _ => simp
  refine ⟨by rw [← bts_length]; exact hl, ?_⟩
  rw [← bts_get k 0 (by rw [← bts_length]; exact hl)]
  rw [List.head?_eq_getElem?, List.getElem?_eq_getElem hl] at h
  exact Option.some.inj h
theorem bts_tail (k : ByteArray) : bts (k.extract 1 k.size) = (bts k).tail := by
  rw [bts_extract, List.take_of_length_le (by rw [bts_length]; exact Nat.le_refl _), List.drop_one]
theorem below2 {a b c : World} (h : Below a.heap.size a b) (k : Below b.heap.size b c) : Below a.heap.size a c := h.trans (k.mono h.size)

theorem bts_lt (s : ByteArray) : ∀ c ∈ bts s, c < 256 := bts_all s
theorem sizeBuilder : (Tryz.prog.info? 80).map (·.size) = some 2 := by kernel_rfl
theorem liesBuilder : liesAt Tryz.prog Tryz.prog.depth 80 (2 / Tryz.prog.cellsOf 80) 0 80 1 = true := by kernel_rfl

set_option maxHeartbeats 1000000 in
set_option maxRecDepth 100000 in
theorem copy_used (b : Nat) (w : World) (h0 : w.cell? ⟨b, 0, none⟩ = some (.pointer (some ⟨b, 0, none⟩))) :
    Calls Tryz.prog 92 #[.pointer (some ⟨b, 0, none⟩)] w fun e w' => e = .returned (.tuple #[]) ∧ w = w' := by
  obtain ⟨j, hj, _⟩ := Option.map_eq_some_iff.1 sizeBuilder
  go_enter Tryz.func92, Tryz.ntmps92
  go_wp2
  rw [Lib.run_neq_ptr_same w _ Tryz.underlying78 hj]
  go_wp2
  go_end0
  exact ⟨rfl, rfl⟩

set_option maxHeartbeats 1000000 in
set_option maxRecDepth 100000 in
theorem copy_fresh (b : Nat) (w : World) (h0 : w.cell? ⟨b, 0, none⟩ = some (.pointer none)) (hsh : w.shape? b = some (80, 2)) (hfz : w.frozen? ⟨b, 0, none⟩ = false) :
    Calls Tryz.prog 92 #[.pointer (some ⟨b, 0, none⟩)] w fun e w' => e = .returned (.tuple #[]) ∧ w.setCell ⟨b, 0, none⟩ (.pointer (some ⟨b, 0, none⟩)) = w' := by
  obtain ⟨j, hj, hjs⟩ := Option.map_eq_some_iff.1 sizeBuilder
  go_enter Tryz.func92, Tryz.ntmps92
  go_wp2
  rw [Lib.run_to_unsafe w ⟨b, 0, none⟩ Tryz.underlying78 Tryz.underlying119 hj (by rw [hjs]; decide) hsh (Nat.zero_lt_succ 1)]
  simp only [Result.andThen]
  rw [Oper.upon_value]
  go_wp2
  rw [run_callFunc_extern Tryz.func109 (by kernel_rfl) (by kernel_rfl) (by kernel_rfl) (e := Extern.AbiNoEscape.same) (by kernel_rfl)]
  rw [Lib.run_noEscape]
  simp only [Result.andThen]
  rw [Oper.upon_value]
  go_wp2
  rw [Lib.run_from_unsafe w ⟨b, 0, none⟩ Tryz.underlying119 Tryz.underlying78 hj hsh liesBuilder]
  simp only [Result.andThen]
  rw [Oper.upon_value]
  go_wp2
  go_end0
  exact ⟨rfl, rfl⟩

theorem copy_any (B b : Nat) (bs : List Value) (w : World) (h : Lib.IsBuilder 80 5 B b bs w) :
    Calls Tryz.prog 92 #[.pointer (some ⟨b, 0, none⟩)] w fun e w' => e = .returned (.tuple #[]) ∧ (Lib.BuilderAt 80 5 B b (.pointer (some ⟨b, 0, none⟩)) bs w' ∧ Below B w w') := by
  rcases h with h | h
  · refine (copy_fresh b w h.cell0 h.shape h.frozen0).mono ?_
    rintro e w' ⟨rfl, rfl⟩
    exact ⟨rfl, h.used _, (Below.refl B w).setCell (p := ⟨b, 0, none⟩) h.1 _⟩
  · refine (copy_used b w h.cell0).mono ?_
    rintro e w' ⟨rfl, rfl⟩
    exact ⟨rfl, h, Below.refl B _⟩

set_option maxHeartbeats 2000000 in
set_option maxRecDepth 100000 in
theorem writeString_any (B b : Nat) (bs : List Value) (s : ByteArray) (w : World) (h : Lib.IsBuilder 80 5 B b bs w) (hlen : bs.length + s.size ≤ 140737488355328) (hBw : B ≤ w.heap.size) :
    Calls Tryz.prog 71 #[.pointer (some ⟨b, 0, none⟩), .string s] w fun e w' => e = .returned (.tuple #[.int .i64 s.size, .nilIface]) ∧ (Lib.BuilderAt 80 5 B b (.pointer (some ⟨b, 0, none⟩)) (bs ++ Lib.strCells s) w' ∧ Below B w w') := by
  obtain ⟨i0, hi, hz0, hz1, hz2⟩ := info_parts Tryz.info5
  go_enter Tryz.func71, Tryz.ntmps71
  go_wp2_with (go_at_call 92; refine (copy_any B b bs _ h).mono ?_)
  rintro e w1 ⟨rfl, h1, hb1⟩
  obtain ⟨hB, v, hbk, hown, hne⟩ := h1
  have c0 : w1.cell? ⟨b, 0, none⟩ = some (.pointer (some ⟨b, 0, none⟩)) := by rw [Lib.cell_of_heap hbk]; rfl
  have c1 : w1.cell? ⟨b, 1, none⟩ = some v := by rw [Lib.cell_of_heap hbk]; rfl
  go_wp2_with (at_builtin; refine Lib.wpList_append_own_string _ rfl _ _ 58 9 rfl B 5 i0 Tryz.underlying58 Tryz.underlying9 hi hz0 hz1 hz2 _ _ _ rfl hown s rfl ?c3 ?c4 ?c5 ?_)
  case c3 => unfold maxLen; omega
  case c4 => omega
  case c5 => have := hb1.size; omega
  intro v' w2 hown' hgrow _
  have hlt : b < w1.heap.size := (Array.getElem?_eq_some_iff.1 hbk).1
  have hb2 : w2.heap[b]? = some (.cells #[.pointer (some ⟨b, 0, none⟩), v] 80 (0, 0)) := by
    rw [hgrow.block b hlt (fun e => hne e.symm)]
    exact hbk
  have d0 : w2.cell? ⟨b, 0, none⟩ = some (.pointer (some ⟨b, 0, none⟩)) := by rw [Lib.cell_of_heap hb2]; rfl
  have d1 : w2.cell? ⟨b, 1, none⟩ = some v := by rw [Lib.cell_of_heap hb2]; rfl
  have f1 : w2.frozen? ⟨b, 1, none⟩ = false := Lib.frozen_of_heap hb2 1
  obtain ⟨ao, n', cap, rfl⟩ : ∃ ao n' cap, v' = .slice ao n' cap := by
    rcases hown'.2 with ⟨hv, _⟩ | ⟨g, cap, cur, hv, _⟩
    · exact ⟨_, _, _, hv⟩
    · exact ⟨_, _, _, hv⟩
  go_wp2
  go_ret2
  refine ⟨rfl, ?_, ?_⟩
  · exact Lib.BuilderAt.put (T := 80) (e := 5) hB hb2 (bs' := bs ++ Lib.strCells s) (by simpa [Lib.strCells_length] using hown') (by decide)
  · exact (hb1.grown hgrow (by have := hb1.size; omega) (fun k hk => (hown.lt k hk).1)).setCell (p := ⟨b, 1, none⟩) hB _
theorem builder_below {B b : Nat} {bs : List Value} {w w' : World} (h : Lib.IsBuilder 80 5 B b bs w) (hb : Below w.heap.size w w') : Lib.IsBuilder 80 5 B b bs w' := by
  have one : ∀ p, Lib.BuilderAt 80 5 B b p bs w → Lib.BuilderAt 80 5 B b p bs w' := by
    rintro p ⟨hB, v, hbk, hown, hne⟩
    exact ⟨hB, v, (hb.block b (Array.getElem?_eq_some_iff.1 hbk).1).trans hbk, own_below hown hb, hne⟩
  exact h.imp (one _) (one _)
end Go.Proofs.YthmmjihldkjhhaaGreatDoor
