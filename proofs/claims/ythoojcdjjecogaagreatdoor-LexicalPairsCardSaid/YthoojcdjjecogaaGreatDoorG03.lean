/-
  Part 3 of the proof: what functions return, and plain facts (Base Reg Etree BaseW). Conditions: each theorem names its own.
-/
import Derived.Test.YthoojcdjjecogaaGreatDoorProg
import Derived.WalkKit
import Derived.WalkLawsBesides
import Derived.WalkSpells
import Derived.LoopTactic
import Derived.Outline
import Derived.LoopN
import Derived.Deep.Light
import Derived.Lib.Hide
import Derived.Laws.Rows
import Derived.Laws.AppendOwn
import Derived.OwnWalk
import Derived.Laws.BitsLemmas
import Derived.Laws.Shifts
import Derived.Deep.DeepMust
import Derived.Laws.BytesString
import Derived.Laws.Cells
import Derived.Deep.QuietTactic
import Derived.BigQuiet
import Derived.WalkSmall
import Derived.Lib.ConvBytes
import Derived.Lib.Builder
import Derived.Lib.Slices
import Derived.Lib.Walk
import Derived.Lib.Strings
import Derived.Laws.Externs
import Derived.Laws.IdiomCopy
import Derived.Deep.RegionHeld3
import Derived.BigFrame
import Derived.Deep.DeepCutAuto
import Derived.Test.YthoojcdjjecogaaGreatDoorG02
set_option maxRecDepth 1000000
set_option maxHeartbeats 16000000
namespace Go.Proofs.YthoojcdjjecogaaGreatDoor
open Go Go.RowKit
theorem zA {α : Type _} (l : List α) (i : Nat) (a : α) : l.toArray.setIfInBounds i a = (l.set i a).toArray := List.setIfInBounds_toArray l i a
theorem zB {α : Type _} (a b : α) (l : List α) : (a :: l).set 0 b = b :: l := rfl
theorem zC {α : Type _} (a b : α) (n : Nat) (l : List α) : (a :: l).set (n + 1) b = a :: l.set n b := rfl

theorem ret_bool {a b : Bool} (h : a = b) : Ending.returned (.bool a) = .returned (.bool b) := by rw [h]

def u8s (l : List Nat) : List Value := l.map fun n : Nat => Value.int .u8 (n : Int)
def u8i (l : List Int) : List Value := l.map fun n : Int => Value.int .u8 n
theorem u8i_nat (l : List Nat) : u8i (l.map fun n : Nat => (n : Int)) = u8s l := by simp [u8i, u8s]
theorem u8s_length (l : List Nat) : (u8s l).length = l.length := List.length_map _
theorem u8s_append (l m : List Nat) : u8s (l ++ m) = u8s l ++ u8s m := List.map_append

theorem cells_new (w : World) (cs : Array Value) (e : TypeId) : ∀ j u, cs.toList[j]? = some u -> (w.alloc (.cells cs e)).cell? ((⟨w.heap.size, 0, none⟩ : Addr).add j) = some u := by
 intro j u h
 have h' : cs[j]? = some u := by simpa using h
 have hb : ((⟨w.heap.size, 0, none⟩ : Addr).add j) = ⟨w.heap.size, j, none⟩ := by
  unfold Addr.add; split
  ·rename_i h0; rw [h0]
  ·simp
 rw [hb]
 show (match (w.heap.push (.cells cs e))[w.heap.size]? with | some (.cells c _ _) => if (none : Option Nat).isSome then none else c[j]? | _ => none) = some u
 rw [Array.getElem?_push_size]
 simpa using h'

theorem grownBy_alloc {w w1 : World} {o : Obj} {row : Option Nat} (h : (w.alloc o).grownBy w1 row) : w.grownBy w1 row :=
 ⟨h.os, h.tape, h.output, by have := h.size; simp at this; omega, fun k hk hr => (h.block k (by simp; omega) hr).trans (Below.heap_alloc w o k hk)⟩
theorem Tryz.info5 : (Tryz.prog.info? 5).map (fun i => (i.zero, i.size, i.bytes)) = some (some (.int .u8 0), 1, 1) := by kernel_rfl

def str (l : List Nat) : ByteArray := ⟨(l.map UInt8.ofNat).toArray⟩
def strI (l : List Int) : ByteArray := ⟨(l.map fun n : Int => UInt8.ofNat n.toNat).toArray⟩
theorem strI_nat (l : List Nat) : strI (l.map fun n : Nat => (n : Int)) = str l := by simp [strI, str]
theorem foldl_push (l : List Int) : ∀ r : ByteArray, l.foldl (fun r n => r.push (UInt8.ofNat n.toNat)) r = ⟨(r.data.toList ++ l.map fun n : Int => UInt8.ofNat n.toNat).toArray⟩ := by
 induction l with
 | nil => intro r; simp
 | cons n l ih => intro r; rw [List.foldl_cons, ih]; simp [ByteArray.push]

theorem run_str (w : World) (a : Addr) (cap : Nat) (l : List Int) (h : ∀ j v, (u8i l)[j]? = some v -> w.cell? (a.add j) = some v) :
  (convert 79 9 (.slice (some a) l.length cap)).run Tryz.prog w = .ok (.string (strI l)) w := by
 rw [run_convert_bytes_string w 79 9 5 (some a) l.length cap Tryz.underlying79 Tryz.underlying5 Tryz.underlying9]
 rw [run_bytesToString w a l.length cap l]
 ·rw [foldl_push]; rfl
 ·have := run_loadCells_list (P := Tryz.prog) (w := w) a (u8i l) h
  simpa [u8i] using this

theorem run_str_new (w : World) (l : List Int) (cap : Nat) :
  (convert 79 9 (.slice (some ⟨w.heap.size, 0, none⟩) l.length cap)).run Tryz.prog (w.alloc (.cells (u8i l).toArray 5)) = .ok (.string (strI l)) (w.alloc (.cells (u8i l).toArray 5)) :=
 run_str _ _ _ l (fun j v h => cells_new w (u8i l).toArray 5 j v (by simpa using h))

def bts (s : ByteArray) : List Nat := s.data.toList.map (·.toNat)
def gb (s : ByteArray) (i : Nat) : Nat := (bts s).getD i 0
theorem bts_length (s : ByteArray) : (bts s).length = s.size := by simp [bts]
theorem byte_eq {s : ByteArray} {i : Nat} (h : i < s.size) : (s[i]'h).toNat = gb s i := by
 unfold gb
 have h' : i < s.data.toList.length := by simpa using h
 have e : (bts s)[i]? = some (s.data.toList[i].toNat) := by simpa [bts] using ⟨_, Array.getElem?_eq_getElem h, rfl⟩
 rw [List.getD_eq_getElem?_getD, e]
 rfl
theorem bts_str (l : List Nat) (h : ∀ b ∈ l, b < 256) : bts (str l) = l := by
 unfold bts str
 rw [List.map_map]
 conv => rhs; rw [<- List.map_id l]
 refine List.map_congr_left (fun b hb => ?_)
 have := h b hb
 simp; omega
theorem str_bts (s : ByteArray) : str (bts s) = s := by
 unfold bts str
 rw [List.map_map]
 have : (UInt8.ofNat ∘ fun x : UInt8 => x.toNat) = id := by funext x; simp
 rw [this, List.map_id]

theorem isEmpty_no {s : ByteArray} (h : 0 < s.size) : s.toList.isEmpty = false := by
 rw [ByteArray.toList_eq]
 cases hl : s.data.toList with
 | nil =>
  exfalso
  have h0 : s.data.size = 0 := by rw [<- Array.length_toList, hl]; rfl
  have h1 : s.size = 0 := h0
  omega
 | cons a l => rfl
theorem isEmpty_yes {s : ByteArray} (h : s.size = 0) : s.toList.isEmpty = true := by
 rw [ByteArray.toList_eq]
 cases hl : s.data.toList with
 | nil => rfl
 | cons a l =>
  exfalso
  have h0 : s.data.size = s.data.toList.length := Array.length_toList.symm
  rw [hl] at h0
  have h1 : s.size = l.length + 1 := h0
  omega
theorem str_size (l : List Nat) : (str l).size = l.length := by simp [str, ByteArray.size]
theorem bts_inj {s t : ByteArray} (h : bts s = bts t) : s = t := by rw [<- str_bts s, h, str_bts]
theorem toList_beq (s t : ByteArray) : (s.toList == t.toList) = decide (bts s = bts t) := by
 rw [Bool.eq_iff_iff]
 simp only [beq_iff_eq, decide_eq_true_eq]
 constructor
 ·intro h; rw [ByteArray.toList_eq, ByteArray.toList_eq] at h; unfold bts; rw [h]
 ·intro h; rw [bts_inj h]
theorem bts_extract (s : ByteArray) (a b : Nat) : bts (s.extract a b) = ((bts s).take b).drop a := by
 unfold bts
 rw [ByteArray.data_extract, Array.toList_extract]
 simp [List.extract, List.map_drop, List.map_take, List.drop_take]
theorem bts_from (s : ByteArray) (p : Nat) : bts (s.extract p s.size) = (bts s).drop p := by
 rw [bts_extract, List.take_of_length_le (by rw [bts_length]; exact Nat.le_refl _)]

theorem grown_of_below {w w' : World} (h : Below w.heap.size w w') : w.grownBy w' none := ⟨h.os, h.tape, h.output, h.size, fun k hk _ => h.block k hk⟩
theorem below_of_grown {w w' : World} (h : w.grownBy w' none) : Below w.heap.size w w' :=
 (Below.refl _ w).grown h (Nat.le_refl _) (fun _ e => by cases e)
theorem below_of_drewN {w w1 : World} {n : Nat} (h : Below (w.drewN n).heap.size (w.drewN n) w1) : Below w.heap.size w w1 := (below_drewN (Below.refl _ w) n).trans h
theorem row_ge {W : World} {base e size n : Nat} {v : Value} {xs : List Value} (h : W.ownsRow base e size v n xs) (k : Nat) (hk : k < base) : some k ≠ v.ownBlock := by
 rcases h.2 with ⟨rfl, _⟩ | ⟨g, cap, cur, rfl, hb, _⟩
 ·simp [Value.ownBlock]
 ·simp [Value.ownBlock]; omega
theorem row_slice {W : World} {base e size n : Nat} {v : Value} {xs : List Value} (h : W.ownsRow base e size v n xs) : ∃ a cap, v = .slice a n cap := by
 rcases h.2 with ⟨rfl, rfl⟩ | ⟨g, cap, cur, rfl, _⟩
 ·exact ⟨_, _, rfl⟩
 ·exact ⟨_, _, rfl⟩

theorem own_below {w w1 : World} {base e size n : Nat} {v : Value} {xs : List Value} (h : w.ownsRow base e size v n xs) (hb : Below w.heap.size w w1) : w1.ownsRow base e size v n xs := by
 refine h.kept (grown_of_below hb) ?_
 rcases h.2 with ⟨rfl, _⟩ | ⟨g, cap, cur, rfl, _⟩
 ·exact .inl rfl
 ·exact .inr (by simp [Value.ownBlock])
theorem strCells_str (l : List Nat) (h : ∀ b ∈ l, b < 256) : Lib.strCells (str l) = u8s l := by
 have e : Lib.strCells (str l) = u8s (bts (str l)) := by simp [Lib.strCells, u8s, bts]
 rw [e, bts_str l h]

theorem bts_take_succ (s : ByteArray) (k : Nat) (h : k < s.size) : (bts s).take (k + 1) = (bts s).take k ++ [(s[k]'h).toNat] := by
 have hl : k < (bts s).length := by rw [bts_length]; exact h
 rw [List.take_succ_eq_append_getElem hl]
 congr 1
 simp only [List.cons.injEq, and_true]
 rw [byte_eq h]; unfold gb
 rw [List.getD_eq_getElem?_getD, List.getElem?_eq_getElem hl]; rfl
theorem beq_no {c k : Nat} (h : c ≠ k) : ((c : Int) == (k : Int)) = false := beq_eq_false_iff_ne.2 (by omega)
theorem bts_all (s : ByteArray) : ∀ b ∈ bts s, b < 256 := by
 intro b hb
 obtain ⟨x, _, rfl⟩ := List.mem_map.1 hb
 exact x.toNat_lt
theorem byteCells_u8 (l : List Nat) (h : ∀ b ∈ l, b < 256) : Lib.byteCells (l.map UInt8.ofNat) = u8s l := by
 unfold Lib.byteCells u8s
 rw [List.map_map]
 refine List.map_congr_left (fun b hb => ?_)
 have := h b hb
 simp; omega
def Row8 (W : World) (B cap : Nat) (l : List Nat) : Prop := ∃ cur, W.heap[B]? = some (.cells cur 5 (cap, cap + 1)) /\ cur.size = cap /\ l.length <= cap /\ cur.toList.take l.length = u8s l
theorem Row8.lt {W : World} {B cap : Nat} {l : List Nat} (h : Row8 W B cap l) : B < W.heap.size := by
 obtain ⟨cur, h1, _⟩ := h
 exact (Array.getElem?_eq_some_iff.1 h1).1
theorem Row8.at {W : World} {B cap : Nat} {l : List Nat} (h : Row8 W B cap l) {j : Nat} (hj : j < l.length) : W.cell? ⟨B, j, none⟩ = some (.int .u8 (l.getD j 0 : Nat)) := by
 obtain ⟨cur, h1, h2, h3, h4⟩ := h
 have e : (cur.toList.take l.length)[j]? = cur.toList[j]? := List.getElem?_take_of_lt hj
 rw [h4] at e
 have e2 : cur[j]? = some (Value.int .u8 (l.getD j 0 : Nat)) := by
  rw [<- Array.getElem?_toList, <- e]
  simp [u8s, hj, List.getD_eq_getElem?_getD]
 simp [World.cell?, h1, e2]
theorem Row8.open {W : World} {B cap : Nat} {l : List Nat} (h : Row8 W B cap l) {j : Nat} (hj : j < l.length) : W.frozen? ⟨B, j, none⟩ = false := by
 obtain ⟨cur, h1, h2, h3, h4⟩ := h
 simp [World.frozen?, h1]; omega
theorem Row8.keep {W W' : World} {B cap : Nat} {l : List Nat} (h : Row8 W B cap l) (hb : Below W.heap.size W W') : Row8 W' B cap l := by
 have := h.lt
 obtain ⟨cur, h1, h2⟩ := h
 exact ⟨cur, (hb.block B this).trans h1, h2⟩
theorem Row8.put {W : World} {B cap : Nat} {l : List Nat} (h : Row8 W B cap l) (j x : Nat) : Row8 (W.setCell ⟨B, j, none⟩ (.int .u8 (x : Int))) B cap (l.set j x) := by
 obtain ⟨cur, h1, h2, h3, h4⟩ := h
 obtain ⟨hlt, hk⟩ := Array.getElem?_eq_some_iff.1 h1
 refine ⟨cur.setIfInBounds j (.int .u8 (x : Int)), ?_, by simp [h2], by simpa using h3, ?_⟩
 ·show (W.heap.modify B _)[B]? = _
  rw [Array.getElem?_eq_getElem (by rw [Array.size_modify]; exact hlt), Array.getElem_modify_self, hk]
  rfl
 ·rw [Array.toList_setIfInBounds, List.length_set, List.take_set, h4]
  simp [u8s, List.map_set]
theorem Row8.str {W : World} {B cap : Nat} {l : List Nat} (h : Row8 W B cap l) : (convert 79 9 (.slice (some ⟨B, 0, none⟩) l.length cap)).run Tryz.prog W = .ok (.string (str l)) W := by
 have e := run_str W ⟨B, 0, none⟩ cap (l.map fun n : Nat => (n : Int)) (fun j u hj => by
  have hb : ((⟨B, 0, none⟩ : Addr).add j) = ⟨B, j, none⟩ := by
   unfold Addr.add; split
   ·rename_i h0; rw [h0]
   ·simp
  rw [hb]
  have hj' : j < l.length := by
   have := (List.getElem?_eq_some_iff.1 hj).1
   simpa [u8i] using this
  rw [h.at hj']
  rw [<- hj, u8i_nat]; simp [u8s, hj', List.getD_eq_getElem?_getD])
 rw [List.length_map, strI_nat] at e
 exact e
theorem bytes_row (w : World) (s : ByteArray) : ∃ cap w', (convert 9 79 (.string s)).run Tryz.prog w = .ok (.slice (some ⟨w.heap.size, 0, none⟩) s.size cap) w' /\ Row8 w' w.heap.size cap (bts s) /\ Below w.heap.size w w' := by
 refine ⟨_, _, Lib.run_convert_string_bytes w 9 79 5 s Tryz.underlying9 Tryz.underlying79 Tryz.underlying5, ?_, ?_⟩
 ·have hle : s.size <= grownCap w s.size 0 5 := grownCap_ge _ _ _ _
  have hcs : (Lib.bytesCells w 5 s).size = grownCap w s.size 0 5 := by
   have : s.data.size = s.size := rfl
   simp [Lib.bytesCells, this]; omega
  refine ⟨Lib.bytesCells w 5 s, ?_, hcs, by rw [bts_length]; exact hle, ?_⟩
  ·have := Lib.bytesWorld_at_new w 5 s
   rw [hcs] at this
   exact this
  ·rw [bts_length]
   have : s.data.toList.length = s.size := rfl
   simp [Lib.bytesCells, bts, u8s, this]
 ·exact ⟨rfl, rfl, rfl, by rw [Lib.bytesWorld_size]; omega, fun k hk => Lib.bytesWorld_at_old w 5 s k hk⟩

theorem bts_get (s : ByteArray) (k : Nat) (h : k < s.size) : (bts s)[k]'(by rw [bts_length]; exact h) = (s[k]'h).toNat := by
 simp [bts]; rfl

theorem word_beq (k : ByteArray) (l : List UInt8) : (k.toList == l) = decide (bts k = l.map UInt8.toNat) := by
 rw [ByteArray.toList_eq, Bool.eq_iff_iff]
 simp only [beq_iff_eq, decide_eq_true_eq]
 constructor
 ·rintro rfl; rfl
 ·intro h; exact (List.map_inj_right (f := UInt8.toNat) (fun _ _ e => UInt8.toNat_inj.1 e)).1 h
theorem head_byte {k : ByteArray} {b : Nat} (h : (bts k).head? = some b) : ∃ hp : 0 < k.size, (k[0]'hp).toNat = b := by
 have hl : 0 < (bts k).length := by
  cases hb : bts k with
  | nil => rw [hb] at h; cases h
  | cons _ _ => simp
 refine ⟨by rw [<- bts_length]; exact hl, ?_⟩
 rw [<- bts_get k 0 (by rw [<- bts_length]; exact hl)]
 rw [List.head?_eq_getElem?, List.getElem?_eq_getElem hl] at h
 exact Option.some.inj h
theorem bts_tail (k : ByteArray) : bts (k.extract 1 k.size) = (bts k).tail := by
 rw [bts_extract, List.take_of_length_le (by rw [bts_length]; exact Nat.le_refl _), List.drop_one]
theorem bts_lt (s : ByteArray) : ∀ c ∈ bts s, c < 256 := bts_all s
theorem sizeBuilder : (Tryz.prog.info? 99).map (·.size) = some 2 := by kernel_rfl
theorem liesBuilder : liesAt Tryz.prog Tryz.prog.depth 99 (2 / Tryz.prog.cellsOf 99) 0 99 1 = true := by kernel_rfl

theorem copy_used (b : Nat) (w : World) (h0 : w.cell? ⟨b, 0, none⟩ = some (.pointer (some ⟨b, 0, none⟩))) :
  Calls Tryz.prog 104 #[.pointer (some ⟨b, 0, none⟩)] w fun e w' => e = .returned (.tuple #[]) /\ w = w' := by
 obtain ⟨j, hj, _⟩ := Option.map_eq_some_iff.1 sizeBuilder
 go_enter Tryz.func104, Tryz.ntmps104
 go_wp2
 rw [Lib.run_neq_ptr_same w _ Tryz.underlying97 hj]
 go_wp2
 go_end0
 exact ⟨rfl, rfl⟩

theorem copy_fresh (b : Nat) (w : World) (h0 : w.cell? ⟨b, 0, none⟩ = some (.pointer none)) (hsh : w.shape? b = some (99, 2)) (hfz : w.frozen? ⟨b, 0, none⟩ = false) :
  Calls Tryz.prog 104 #[.pointer (some ⟨b, 0, none⟩)] w fun e w' => e = .returned (.tuple #[]) /\ w.setCell ⟨b, 0, none⟩ (.pointer (some ⟨b, 0, none⟩)) = w' := by
 obtain ⟨j, hj, hjs⟩ := Option.map_eq_some_iff.1 sizeBuilder
 go_enter Tryz.func104, Tryz.ntmps104
 go_wp2
 rw [Lib.run_to_unsafe w ⟨b, 0, none⟩ Tryz.underlying97 Tryz.underlying154 hj (by rw [hjs]; decide) hsh (Nat.zero_lt_succ 1)]
 simp only [Result.andThen]
 rw [Oper.upon_value]
 go_wp2
 rw [run_callFunc_extern Tryz.func126 (by kernel_rfl) (by kernel_rfl) (by kernel_rfl) (e := Extern.AbiNoEscape.same) (by kernel_rfl)]
 rw [Lib.run_noEscape]
 simp only [Result.andThen]
 rw [Oper.upon_value]
 go_wp2
 rw [Lib.run_from_unsafe w ⟨b, 0, none⟩ Tryz.underlying154 Tryz.underlying97 hj hsh liesBuilder]
 simp only [Result.andThen]
 rw [Oper.upon_value]
 go_wp2
 go_end0
 exact ⟨rfl, rfl⟩

theorem copy_any (B b : Nat) (bs : List Value) (w : World) (h : Lib.IsBuilder 99 5 B b bs w) :
  Calls Tryz.prog 104 #[.pointer (some ⟨b, 0, none⟩)] w fun e w' => e = .returned (.tuple #[]) /\ (Lib.BuilderAt 99 5 B b (.pointer (some ⟨b, 0, none⟩)) bs w' /\ Below B w w') := by
 rcases h with h | h
 ·refine (copy_fresh b w h.cell0 h.shape h.frozen0).mono ?_
  rintro e w' ⟨rfl, rfl⟩
  exact ⟨rfl, h.used _, (Below.refl B w).setCell (p := ⟨b, 0, none⟩) h.1 _⟩
 ·refine (copy_used b w h.cell0).mono ?_
  rintro e w' ⟨rfl, rfl⟩
  exact ⟨rfl, h, Below.refl B _⟩

theorem writeString_any (B b : Nat) (bs : List Value) (s : ByteArray) (w : World) (h : Lib.IsBuilder 99 5 B b bs w) (hlen : bs.length + s.size <= 140737488355328) (hBw : B <= w.heap.size) :
  Calls Tryz.prog 95 #[.pointer (some ⟨b, 0, none⟩), .string s] w fun e w' => e = .returned (.tuple #[.int .i64 s.size, .nilIface]) /\ (Lib.BuilderAt 99 5 B b (.pointer (some ⟨b, 0, none⟩)) (bs ++ Lib.strCells s) w' /\ Below B w w') := by
 obtain ⟨i0, hi, hz0, hz1, hz2⟩ := info_parts Tryz.info5
 go_enter Tryz.func95, Tryz.ntmps95
 go_wp2_with (go_at_call 104; refine (copy_any B b bs _ h).mono ?_)
 rintro e w1 ⟨rfl, h1, hb1⟩
 obtain ⟨hB, v, hbk, hown, hne⟩ := h1
 have c0 : w1.cell? ⟨b, 0, none⟩ = some (.pointer (some ⟨b, 0, none⟩)) := by rw [Lib.cell_of_heap hbk]; rfl
 have c1 : w1.cell? ⟨b, 1, none⟩ = some v := by rw [Lib.cell_of_heap hbk]; rfl
 go_wp2_with (at_builtin; refine Lib.wpList_append_own_string _ rfl _ _ 79 9 rfl B 5 i0 Tryz.underlying79 Tryz.underlying9 hi hz0 hz1 hz2 _ _ _ rfl hown s rfl ?c3 ?c4 ?c5 ?_)
 case c3 => unfold maxLen; omega
 case c4 => omega
 case c5 => have := hb1.size; omega
 intro v' w2 hown' hgrow _
 have hlt : b < w1.heap.size := (Array.getElem?_eq_some_iff.1 hbk).1
 have hb2 : w2.heap[b]? = some (.cells #[.pointer (some ⟨b, 0, none⟩), v] 99 (0, 0)) := by
  rw [hgrow.block b hlt (fun e => hne e.symm)]
  exact hbk
 have d0 : w2.cell? ⟨b, 0, none⟩ = some (.pointer (some ⟨b, 0, none⟩)) := by rw [Lib.cell_of_heap hb2]; rfl
 have d1 : w2.cell? ⟨b, 1, none⟩ = some v := by rw [Lib.cell_of_heap hb2]; rfl
 have f1 : w2.frozen? ⟨b, 1, none⟩ = false := Lib.frozen_of_heap hb2 1
 obtain ⟨ao, n', cap, rfl⟩ : ∃ ao n' cap, v' = .slice ao n' cap := by
  rcases hown'.2 with ⟨hv, _⟩ | ⟨g, cap, cur, hv, _⟩
  ·exact ⟨_, _, _, hv⟩
  ·exact ⟨_, _, _, hv⟩
 go_wp2
 go_ret2
 refine ⟨rfl, ?_, ?_⟩
 ·exact Lib.BuilderAt.put (T := 99) (e := 5) hB hb2 (bs' := bs ++ Lib.strCells s) (by simpa [Lib.strCells_length] using hown') (by decide)
 ·exact (hb1.grown hgrow (by have := hb1.size; omega) (fun k hk => (hown.lt k hk).1)).setCell (p := ⟨b, 1, none⟩) hB _
theorem builder_below {B b : Nat} {bs : List Value} {w w' : World} (h : Lib.IsBuilder 99 5 B b bs w) (hb : Below w.heap.size w w') : Lib.IsBuilder 99 5 B b bs w' := by
 have one : ∀ p, Lib.BuilderAt 99 5 B b p bs w -> Lib.BuilderAt 99 5 B b p bs w' := by
  rintro p ⟨hB, v, hbk, hown, hne⟩
  exact ⟨hB, v, (hb.block b (Array.getElem?_eq_some_iff.1 hbk).1).trans hbk, own_below hown hb, hne⟩
 exact h.imp (one _) (one _)

def Blk (W : World) (g : Nat) (t : TypeId) (cs : Array Value) : Prop := W.heap[g]? = some (.cells cs t (0, 0))
noncomputable def aggT (t : TypeId) (n : Nat) : Bool := (match Tryz.prog.underlying t with | some d => d.isRow | none => false) && decide ((Tryz.prog.info? t).map (·.size) = some n)
noncomputable def cellT (t : TypeId) : Bool := match Tryz.prog.underlying t with | some d => !d.isRow | none => false
theorem aggT_und {t : TypeId} {n : Nat} (h : aggT t n = true) : ∃ d, Tryz.prog.underlying t = some d /\ d.isRow = true := by
 unfold aggT at h
 rw [Bool.and_eq_true] at h
 cases hu : Tryz.prog.underlying t with
 | none => rw [hu] at h; cases h.1
 | some d => rw [hu] at h; exact ⟨d, rfl, h.1⟩
theorem aggT_size {t : TypeId} {n : Nat} (h : aggT t n = true) : (Tryz.prog.info? t).map (·.size) = some n := by
 unfold aggT at h
 rw [Bool.and_eq_true] at h
 exact of_decide_eq_true h.2
section
variable {W W' : World} {g : Nat} {t : TypeId} {cs : Array Value}
theorem Blk.lt (h : Blk W g t cs) : g < W.heap.size := (Array.getElem?_eq_some_iff.1 h).1
theorem Blk.keep (h : Blk W g t cs) (hb : Below W.heap.size W W') : Blk W' g t cs := (hb.block g h.lt).trans h
theorem Blk.drew (h : Blk W g t cs) : Blk W.drew g t cs := h
theorem Blk.far {r : Nat} (h : Blk W g t cs) (hb : W.grownBy W' (some r)) (hr : g ≠ r) : Blk W' g t cs := (hb.block g h.lt (fun e => hr (Option.some.inj e))).trans h
theorem Blk.drewN (h : Blk W g t cs) (n : Nat) : Blk (W.drewN n) g t cs := h.keep (below_drewN (Below.refl _ W) n)
theorem Blk.cell (h : Blk W g t cs) (j : Nat) : W.cell? ⟨g, j, none⟩ = cs[j]? := cell_of_row W g j cs t (0, 0) h
theorem Blk.at (h : Blk W g t cs) {j : Nat} {v : Value} (hv : cs[j]? = some v) : W.cell? ⟨g, j, none⟩ = some v := (h.cell j).trans hv
theorem Blk.free (h : Blk W g t cs) (j : Nat) : W.frozen? ⟨g, j, none⟩ = false := by unfold Blk at h; simp [World.frozen?, h]
theorem Blk.new (W : World) (t : TypeId) (cs : Array Value) : Blk (W.alloc (.cells cs t)) W.heap.size t cs := heap_alloc_new W _
theorem Blk.old (h : Blk W g t cs) (o : Obj) : Blk (W.alloc o) g t cs := h.keep ((Below.refl _ W).alloc (Nat.le_refl _) _)
theorem Blk.range (h : Blk W g t cs) (j : Nat) (xs : List Value) (hx : (cs.toList.drop j).take xs.length = xs) : W.rangeAt g j xs := fun i v hv => by
 rw [h.cell]
 have hi : i < xs.length := (List.getElem?_eq_some_iff.1 hv).1
 rw [<- hx, List.getElem?_take_of_lt hi, List.getElem?_drop] at hv
 simpa using hv
end
theorem below_new (W : World) (o : Obj) : Below W.heap.size W (W.alloc o) := (Below.refl _ W).alloc (Nat.le_refl _) _
theorem below_drew (W : World) : Below W.heap.size W W.drew := below_drewN (Below.refl _ W) 1
theorem grown_setRow (W : World) (g : Nat) (cs : Array Value) : W.grownBy (W.setRow g cs) (some g) :=
 ⟨rfl, rfl, rfl, by simp [World.setRow], fun i _ hne => setRow_other W g i cs (fun e => hne (by rw [e]))⟩
theorem below_far {B : Nat} {w W W' : World} {g : Nat} (h : Below B w W) (hB : B <= W.heap.size) (hg : B <= g) (hb : W.grownBy W' (some g)) : Below B w W' :=
 h.grown hb hB (fun k hk => by cases hk; exact hg)
theorem below_step {w W W' : World} (h : Below w.heap.size w W) (hb : Below W.heap.size W W') : Below w.heap.size w W' := h.trans (hb.mono h.size)

section
variable {ops : Array Oper} {o : Oper} {a : Act} {w : World} {K : Act -> World -> Prop} {Q : Exit -> Act -> World -> Prop} {rest : List Oper} {g : Nat} {t ty : TypeId} {cs : Array Value}
theorem run_loadVar_cell {ad : Addr} {v : Value} (hc : cellT ty = true) (h : w.cell? ad = some v) : (loadVar ty ad).run Tryz.prog w = .ok v w := by
 unfold cellT at hc
 cases hu : Tryz.prog.underlying ty with
 | none => rw [hu] at hc; cases hc
 | some d =>
  rw [hu] at hc
  have hagg : (isAgg ty).run Tryz.prog w = .ok false w := by
   unfold isAgg
   rw [Sem.run_bind, run_underlying hu w]
   cases d <;> simp_all [TypeDesc.isRow]
  simp [loadVar, Sem.run_bind, hagg, h]
theorem wp_loadC (hb : Blk w g t cs) (hc : cellT ty = true) (x : Operand) (ho : o.op = .load ty x) {j : Nat} {v : Value} (hx : a.eval x = .pointer (some ⟨g, j, none⟩)) (hv : cs[j]? = some v) (h : K (a.put o.dst v) w) : Oper.wp Tryz.prog o a w K Q := by
 have e := run_loadVar_cell (w := w) hc (hb.at hv)
 unfold Oper.wp execOp
 simp only [ho, hx, Instr.loadAt, Instr.sureAddr, Sem.run_bind, Sem.run_pure, Result.andThen_ok, e]
 exact h
theorem wp_storeA (hb : Blk w g t cs) {xs : Array Value} (x y : Operand) (ho : o.op = .store ty x y) (hx : a.eval x = .pointer (some ⟨g, 0, none⟩)) (hy : a.eval y = .agg xs) (ha : aggT ty xs.size = true) (hs : xs.size = cs.size) (h1 : xs.toList.all (·.oneCell') = true)
  (hd : o.dst = none) (h : ∀ W, Blk W g t xs -> w.grownBy W (some g) -> K a W) : Oper.wp Tryz.prog o a w K Q :=
 wp_store_row _ x y ho g xs hx hy _ cs hb (aggT_size ha) hs.symm (by rw [<- Array.all_toList]; exact h1) (by rw [hd]; exact h _ (setRow_heap w g cs xs t (0, 0) hb) (grown_setRow w g _))
theorem wp_allocA {d : Option Tmp} (hz : (Tryz.prog.info? ty).bind (·.zero) = some (.agg cs)) (ho : o.op = .alloc ty) (hd : o.dst = d) (h : ∀ W, Blk W w.heap.size ty cs -> Below w.heap.size w W -> K (a.put d (.pointer (some ⟨w.heap.size, 0, none⟩))) W) : Oper.wp Tryz.prog o a w K Q := by
 have h1 := h _ (Blk.new w ty cs) (below_new w _)
 cases hq : Tryz.prog.info? ty with
 | none => simp [hq] at hz
 | some i =>
  have hzz : i.zero = some (.agg cs) := by simpa [hq] using hz
  unfold Oper.wp execOp
  simp only [ho]
  subst hd
  simp [Instr.alloc, newVar, newRow, newObj, zeroValue, typeInfo, hq, hzz, Value.cells]
  exact h1
theorem wp_boxA (x : Operand) (ho : o.op = .box ty x) (hx : a.eval x = .agg cs) (h : ∀ W, Blk W w.heap.size ty cs -> Below w.heap.size w W -> K (a.put o.dst (.pointer (some ⟨w.heap.size, 0, none⟩))) W) : Oper.wp Tryz.prog o a w K Q := by
 have h1 := h _ (Blk.new w ty cs) (below_new w _)
 unfold Oper.wp execOp
 simp only [ho, hx]
 simp [Instr.box, newVar, newRow, newObj, Value.cells]
 exact h1
theorem st_of {E : Prop} (hgd : o.guard = none) (h : Oper.wp Tryz.prog o a w K Q) : if Region.wanted o (yielded ops a.tmps) = true then Oper.wp Tryz.prog o a w K Q else E := by
 have hw : Region.wanted o (yielded ops a.tmps) = true := by simp [Region.wanted, hgd]
 rw [if_pos hw]
 exact h
theorem wl_of (hw : Region.wanted o (yielded ops a.tmps) = true) (h : ∀ K : Act -> World -> Prop, (∀ a w, wpList Tryz.prog ops Q rest a w -> K a w) -> Oper.wp Tryz.prog o a w K Q) : wpList Tryz.prog ops Q (o :: rest) a w := Go.BigFrame.wpList_want hw h
end
section
variable {ops : Array Oper} {o : Oper} {a : Act} {w : World} {Q : Exit -> Act -> World -> Prop} {rest : List Oper} {g : Nat} {t ty : TypeId} {cs : Array Value}
theorem wl_loadC (hb : Blk w g t cs) (hw : Region.wanted o (yielded ops a.tmps) = true) (hc : cellT ty = true) (x : Operand) (ho : o.op = .load ty x) {j : Nat} {v : Value} (hx : a.eval x = .pointer (some ⟨g, j, none⟩)) (hv : cs[j]? = some v) (h : wpList Tryz.prog ops Q rest (a.put o.dst v) w) : wpList Tryz.prog ops Q (o :: rest) a w :=
 wl_of hw fun _ hK => wp_loadC hb hc x ho hx hv (hK _ _ h)
theorem wl_storeA (hb : Blk w g t cs) (hw : Region.wanted o (yielded ops a.tmps) = true) {xs : Array Value} (x y : Operand) (ho : o.op = .store ty x y) (hx : a.eval x = .pointer (some ⟨g, 0, none⟩)) (hy : a.eval y = .agg xs) (ha : aggT ty xs.size = true) (hs : xs.size = cs.size) (h1 : xs.toList.all (·.oneCell') = true)
  (hd : o.dst = none) (h : ∀ W, Blk W g t xs -> w.grownBy W (some g) -> wpList Tryz.prog ops Q rest a W) : wpList Tryz.prog ops Q (o :: rest) a w :=
 wl_of hw fun _ hK => wp_storeA hb x y ho hx hy ha hs h1 hd (fun W h2 h3 => hK _ _ (h W h2 h3))
theorem wl_allocA (hw : Region.wanted o (yielded ops a.tmps) = true) (hz : (Tryz.prog.info? ty).bind (·.zero) = some (.agg cs)) (ho : o.op = .alloc ty) (h : ∀ W, Blk W w.heap.size ty cs -> Below w.heap.size w W -> wpList Tryz.prog ops Q rest (a.put o.dst (.pointer (some ⟨w.heap.size, 0, none⟩))) W) : wpList Tryz.prog ops Q (o :: rest) a w :=
 wl_of hw fun _ hK => wp_allocA hz ho rfl (fun W h2 h3 => hK _ _ (h W h2 h3))
theorem wl_boxA (hw : Region.wanted o (yielded ops a.tmps) = true) (x : Operand) (ho : o.op = .box ty x) (hx : a.eval x = .agg cs) (h : ∀ W, Blk W w.heap.size ty cs -> Below w.heap.size w W -> wpList Tryz.prog ops Q rest (a.put o.dst (.pointer (some ⟨w.heap.size, 0, none⟩))) W) : wpList Tryz.prog ops Q (o :: rest) a w :=
 wl_of hw fun _ hK => wp_boxA x ho hx (fun W h2 h3 => hK _ _ (h W h2 h3))
end
theorem yields_C {P : Program} {ops : Array Oper} {S : World -> Prop} {o : Oper} {a : Act} {g : Nat} {t ty : TypeId} {cs : Array Value} (hP : P = Tryz.prog) (hw : Region.wanted o (yielded ops a.tmps) = true) (hc : cellT ty = true) (x : Operand) (ho : o.op = .load ty x) {j : Nat} {v : Value} (hx : a.eval x = .pointer (some ⟨g, j, none⟩)) (hv : cs[j]? = some v)
  (hS : ∀ W, S W -> Blk W g t cs) : YieldsIf P ops S o v a := by
 subst hP
 refine .inl ⟨hw, fun W hW => ?_⟩
 have e := run_loadVar_cell (w := W) hc ((hS W hW).at hv)
 unfold execOp
 simp only [ho, hx, Instr.loadAt, Instr.sureAddr, Sem.run_bind, Sem.run_pure, Result.andThen_ok, e]
theorem takeH {P : Program} {md : Region.Mode} {ops : Array Oper} {Q : Exit -> Act -> World -> Prop} {S : World -> Prop} {i : Nat} {oi : Oper} {d : Option Tmp} {v : Value} {fuel : Nat} {listed : Array Bool} {a : Act} {w : World} (hi : ops[i]? = some oi) (hd : oi.dst = d)
  (hs : Region.noSelect ops = true) (hf : Region.free md ops listed i = true) (hr : (Region.ready md ops listed).contains i = true)
  (hQ : ∀ c a w, Q (.panic c) (a.put oi.dst v) w -> Q (.panic c) a w) (hy : YieldsIf P ops S oi v a) (hS : S w)
  (h : wpAnyH P md ops Q S fuel (listed.setIfInBounds i true) (a.put d v) w) : wpAnyH P md ops Q S (fuel + 1) listed a w :=
 wpAnyH_take hi hs hf hr hQ hy hS (by rw [hd]; exact h)
theorem res_cell {fn : Func} {p : Tmp} {ty : TypeId} {t : TypeId} {cs : Array Value} {g : Nat} {W : World} (hf : fn.results = #[.cell p ty]) {tmps : Array Value} (hb : Blk W g t cs) (ha : aggT ty cs.size = true) (hp : tmps.getD p undef = .pointer (some ⟨g, 0, none⟩)) : (results fn tmps).run Tryz.prog W = .ok (.agg cs) W := by
 obtain ⟨d, hu, hd⟩ := aggT_und ha
 exact results_cell_row hf tmps W g t cs (0, 0) d hp hb hu (by cases d <;> first | rfl | exact hd) (aggT_size ha)
theorem res_cell_tmp {fn : Func} {p q : Tmp} {ty : TypeId} {t : TypeId} {cs : Array Value} {g : Nat} {W : World} (hf : fn.results = #[.cell p ty, .tmp q]) {tmps : Array Value} (hb : Blk W g t cs) (ha : aggT ty cs.size = true) (hp : tmps.getD p undef = .pointer (some ⟨g, 0, none⟩)) {v : Value} (hq : tmps.getD q undef = v) : (results fn tmps).run Tryz.prog W = .ok (.tuple #[.agg cs, v]) W := by
 obtain ⟨d, hu, hd⟩ := aggT_und ha
 have hp' : tmps[p]?.getD undef = .pointer (some ⟨g, 0, none⟩) := by simpa using hp
 have hq' : tmps[q]?.getD undef = v := by simpa using hq
 have e := run_loadVar_row (P := Tryz.prog) W g t ty cs (0, 0) d hb hu (by cases d <;> first | rfl | exact hd) (aggT_size ha)
 simp [results, hf, hp', hq', asAddr, e]
theorem takeE {P : Program} {md : Region.Mode} {ops : Array Oper} {Q : Exit -> Act -> World -> Prop} {S : World -> Prop} {i : Nat} {oi : Oper} {d : Option Tmp} {v : Value} {fuel : Nat} {listed : Array Bool} {a : Act} {w : World} (hi : ops[i]? = some oi) (hd : oi.dst = d) (hy : YieldsIf P ops S oi v a) (hS : S w) (h : wpAnyH P md ops Q S fuel (listed.setIfInBounds i true) (a.put d v) w)
 (hs : Region.noSelect ops = true := by kernel_rfl) (hf : Region.free md ops listed i = true := by kernel_rfl) (hr : (Region.ready md ops listed).contains i = true := by kernel_rfl) (hQ : ∀ c a w, Q (.panic c) (a.put oi.dst v) w -> Q (.panic c) a w := by exact fun _ _ _ h => h) : wpAnyH P md ops Q S (fuel + 1) listed a w := takeH hi hd hs hf hr hQ hy hS h
theorem ready1 {P : Program} {md : Region.Mode} {ops : Array Oper} {Q : Exit -> Act -> World -> Prop} {S : World -> Prop} {fuel : Nat} {listed : Array Bool} {a : Act} {w : World} {i : Nat} {o : Oper} (ho : ops[i]? = some o)
 (h : ∀ K' : Act -> World -> Prop, Shut (∀ a w, S w -> (S w -> wpAnyH P md ops Q S fuel (listed.setIfInBounds i true) a w) -> K' a w) -> if Region.wanted o (yielded ops a.tmps) = true then Oper.wp P o a w K' Q else K' (a.put o.dst undef) w) (hr : Region.ready md ops listed = [i] := by kernel_rfl) : wpAnyH P md ops Q S (fuel + 1) listed a w := wpAnyH_ready hr (by simp) (AllReadyH.cons ho h AllReadyH.nil)
open Go.Ex

def fkB (P : Program) (f : FuncId) : Bool := match P.funcs[f]? with
 | some fn => (fn.name == "runtime.NumGoroutine") == false && fn.body.isNone == false
 | none => false
theorem fk {P : Program} {f : FuncId} (h : fkB P f = true := by kernel_rfl) : ∃ fn, P.funcs[f]? = some fn /\ (fn.name == "runtime.NumGoroutine") = false /\ fn.body.isNone = false := by
 unfold fkB at h
 split at h
 ·rename_i fn e; simp only [Bool.and_eq_true, beq_iff_eq] at h; exact ⟨fn, e, h.1, h.2⟩
 ·cases h
def nG : Nat := 10
def deKinds : List Kd := [.b, .s, .i .i64]
theorem sorted_i {k : IntKind} {ks : List Kd} {l : List Value} (h : sorted (.i k :: ks) l) : ∃ a m, l = .int k a :: m /\ sorted ks m := by
 match l, h with
 | .int j a :: m, h => obtain ⟨e, h2⟩ := h; exact ⟨a, m, by rw [e], h2⟩
theorem sorted_b {ks : List Kd} {l : List Value} (h : sorted (.b :: ks) l) : ∃ a m, l = .bool a :: m /\ sorted ks m := by
 match l, h with
 | .bool a :: m, h => exact ⟨a, m, rfl, h⟩
theorem sorted_s {ks : List Kd} {l : List Value} (h : sorted (.s :: ks) l) : ∃ a m, l = .string a :: m /\ sorted ks m := by
 match l, h with
 | .string a :: m, h => exact ⟨a, m, rfl, h⟩
theorem sorted_n {l : List Value} (h : sorted [] l) : l = [] := by
 match l, h with
 | [], _ => rfl
theorem de_sorted {l : List Value} (h : sorted deKinds l) : ∃ n s S, l = [.bool n, .string s, .int .i64 S] := by
 obtain ⟨n, l0, e0, g0⟩ := sorted_b h
 obtain ⟨s, l1, e1, g1⟩ := sorted_s g0
 obtain ⟨S, l2, e2, g2⟩ := sorted_i g1
 exact ⟨_, _, _, by rw [e0, e1, e2, sorted_n g2]⟩
theorem if_ok {p : Prop} [Decidable p] {b : Bool} {w : World} : (if p then (Result.ok b w : Result Bool) else Result.ok false w) = Result.ok (decide p && b) w := by
 by_cases h : p <;> simp [h]
theorem beq_dec (a b : Bool) : (a == b) = decide (a = b) := rfl
theorem lbeq_dec (a b : List UInt8) : (a == b) = decide (a = b) := by
 rw [Bool.eq_iff_iff]; simp
def deT : EqTab := [(24, deKinds)]
theorem deT_ok : EqS Tryz.prog deT := by
 refine ⟨fun xs ys h1 h2 w => ⟨Tryz.eqGuardType24, ?_⟩, trivial⟩
 obtain ⟨n, s, S, rfl⟩ := de_sorted h1
 obtain ⟨n', s', S', rfl⟩ := de_sorted h2
 simp only [valsEq, <- toList_dec]
 simp [go_sem, Op.equal, Op.maxDepth]
 simp only [if_ok, Bool.and_true, beq_dec, lbeq_dec]
def hN : H := ⟨.e, nG, 1000000⟩
theorem start_none (E : Nat -> Value) (w : World) : Sat E nG w L0 hN w :=
 ⟨fun b r hb => by (unfold hN at hb; rw [T.get_e] at hb; cases hb), fun b c r s _ _ h => .inl h, .refl _, fun _ _ => rfl, Nat.le_refl _⟩
theorem tree_none {calls : List CallX} {env : List Value} {n : Nat} {f : FuncId} {args : List V} {F : Fx} {t : Tree} {w : World} (hr : chk (runTr Tryz.prog nG (fun _ => none) (fun _ => true) deT calls n f args hN) t F = true) (hc : AllX Tryz.prog (envE (.int .i64 0 :: env)) (fun _ => True) calls) (hone : env.all Value.oneCell' = true) (hF : F.Ok (envE (.int .i64 0 :: env)))
  (hargs : V.oks nG args = true) : Calls Tryz.prog f (V.dens L0 (envE (.int .i64 0 :: env)) args).toArray w fun e w' => e = .returned ((t.at (envE (.int .i64 0 :: env))).den L0 (envE (.int .i64 0 :: env))) /\ Below w.heap.size w w' :=
 tree_law (envE_one (by rw [List.all_cons, hone]; rfl)) (by kernel_rfl) noExt hF deT_ok hc (fun _ _ _ _ _ => trivial) hr (start_none _ _) hargs
theorem tree_nv {calls : List CallX} {env : List Value} {n : Nat} {f : FuncId} {args : List V} {F : Fx} {t : Tree} {av : Array Value} {v : Value} {w : World} (hr : chk (runTr Tryz.prog nG (fun _ => none) (fun _ => true) deT calls n f args hN) t F = true) (hc : AllX Tryz.prog (envE (.int .i64 0 :: env)) (fun _ => True) calls) (hone : env.all Value.oneCell' = true) (hF : F.Ok (envE (.int .i64 0 :: env)))
  (hargs : V.oks nG args = true) (hav : (V.dens L0 (envE (.int .i64 0 :: env)) args).toArray = av) (hv : (t.at (envE (.int .i64 0 :: env))).den L0 (envE (.int .i64 0 :: env)) = v) : Calls Tryz.prog f av w fun e w' => e = .returned v /\ Below w.heap.size w w' := by
 rw [<- hv, <- hav]; exact tree_none hr hc hone hF hargs
def it (n : Int) : V := .int .i64 n
def xi (i : Nat) : V := .xi .i64 (.at i)
def xb (i : Nat) : V := .xb (.at i)
def xs (i : Nat) : V := .xs (.at i)
def deV (b : Nat) : V := .agg [xb b, xs (b + 1), xi (b + 2)]
end Go.Proofs.YthoojcdjjecogaaGreatDoor
namespace Go.Proofs.YthoojcdjjecogaaGreatDoor
open Go Go.RowKit

theorem writeByte_any (B b : Nat) (bs : List Value) (c : Int) (w : World) (h : Lib.IsBuilder 99 5 B b bs w) (hlen : bs.length + 1 <= 140737488355328) (hBw : B <= w.heap.size) :
  Calls Tryz.prog 67 #[.pointer (some ⟨b, 0, none⟩), .int .u8 c] w fun e w' => e = .returned .nilIface /\ (Lib.BuilderAt 99 5 B b (.pointer (some ⟨b, 0, none⟩)) (bs ++ [.int .u8 c]) w' /\ Below B w w') := by
 obtain ⟨i0, hi, hz0, hz1, hz2⟩ := info_parts Tryz.info5
 go_enter Tryz.func67, Tryz.ntmps67
 go_wp2_with (go_at_call 104; refine (copy_any B b bs _ h).mono ?_)
 rintro e w1 ⟨rfl, h1, hb1⟩
 obtain ⟨hB, v, hbk, hown, hne⟩ := h1
 have c0 : w1.cell? ⟨b, 0, none⟩ = some (.pointer (some ⟨b, 0, none⟩)) := by rw [Lib.cell_of_heap hbk]; rfl
 have c1 : w1.cell? ⟨b, 1, none⟩ = some v := by rw [Lib.cell_of_heap hbk]; rfl
 go_wp2_with (at_builtin; refine wpList_append_own _ rfl _ _ 79 rfl B 5 i0 (.int .u8 0) 1 1 Tryz.underlying79 hi hz0 hz1 hz2 rfl (by decide) _ _ _ rfl (hown.alloc _) ⟨w1.heap.size, 0, none⟩ 1 1 [.int .u8 c] rfl rfl ?c1 ?c2 ?c3 ?c4 ?c5 ?_)
 case c1 =>
  intro j u hj
  match j, hj with
  | 0, hj => simp at hj; subst hj; simp [Addr.add]
 case c2 => intro u hu; simp at hu; subst hu; rfl
 case c3 => unfold maxLen; omega
 case c4 => omega
 case c5 => have := hb1.size; simp; omega
 intro v' w2 hown' hgrow _
 have hlt : b < w1.heap.size := (Array.getElem?_eq_some_iff.1 hbk).1
 have hb2 : w2.heap[b]? = some (.cells #[.pointer (some ⟨b, 0, none⟩), v] 99 (0, 0)) := by
  rw [hgrow.block b (by simp; omega) (fun e => hne e.symm), Lib.alloc_old w1 _ b hlt]
  exact hbk
 have d0 : w2.cell? ⟨b, 0, none⟩ = some (.pointer (some ⟨b, 0, none⟩)) := by rw [Lib.cell_of_heap hb2]; rfl
 have d1 : w2.cell? ⟨b, 1, none⟩ = some v := by rw [Lib.cell_of_heap hb2]; rfl
 have f1 : w2.frozen? ⟨b, 1, none⟩ = false := Lib.frozen_of_heap hb2 1
 obtain ⟨g, cap, rfl⟩ : ∃ g cap, v' = .slice (some ⟨g, 0, none⟩) (bs.length + 1) cap := by
  rcases hown'.2 with ⟨_, h0⟩ | ⟨g, cap, cur, hv, _⟩
  ·omega
  ·exact ⟨g, cap, hv⟩
 go_wp2
 go_ret
 refine ⟨rfl, ?_, ?_⟩
 ·exact Lib.BuilderAt.put (T := 99) (e := 5) hB hb2 (bs' := bs ++ [.int .u8 c]) (by simpa using hown') (by decide)
 ·exact ((hb1.alloc (by have := hb1.size; omega) _).grown hgrow (by have := hb1.size; simp; omega) (fun k hk => (hown.lt k hk).1)).setCell (p := ⟨b, 1, none⟩) hB _
end Go.Proofs.YthoojcdjjecogaaGreatDoor
