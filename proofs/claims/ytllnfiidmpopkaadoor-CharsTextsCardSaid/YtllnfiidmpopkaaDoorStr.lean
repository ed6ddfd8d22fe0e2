/-
  What Bytes of the reference returns, and what a conversion of owned bytes to a string gives. No condition.
-/
import Derived.Test.YtllnfiidmpopkaaDoorPut
import Derived.Laws.BytesString
import Derived.Laws.Cells
namespace Go.Proofs.YtllnfiidmpopkaaDoor
open Go Go.RowKit

/-- The string of bytes. -/
def str (l : List Nat) : ByteArray := ⟨(l.map UInt8.ofNat).toArray⟩
def strI (l : List Int) : ByteArray := ⟨(l.map fun n : Int => UInt8.ofNat n.toNat).toArray⟩
theorem strI_nat (l : List Nat) : strI (l.map fun n : Nat => (n : Int)) = str l := by simp [strI, str]
theorem foldl_push (l : List Int) : ∀ r : ByteArray, l.foldl (fun r n => r.push (UInt8.ofNat n.toNat)) r = ⟨(r.data.toList ++ l.map fun n : Int => UInt8.ofNat n.toNat).toArray⟩ := by
  induction l with
  | nil => intro r; simp
  | cons n l ih => intro r; rw [List.foldl_cons, ih]; simp [ByteArray.push]

theorem run_str (w : World) (a : Addr) (cap : Nat) (l : List Int) (h : ∀ j v, (u8i l)[j]? = some v → w.cell? (a.add j) = some v) :
    (convert 46 9 (.slice (some a) l.length cap)).run Tryd.prog w = .ok (.string (strI l)) w := by
  rw [run_convert_bytes_string w 46 9 5 (some a) l.length cap Tryd.underlying46 Tryd.underlying5 Tryd.underlying9]
  rw [run_bytesToString w a l.length cap l]
  · rw [foldl_push]; rfl
  · have := run_loadCells_list (P := Tryd.prog) (w := w) a (u8i l) h
    simpa [u8i] using this

theorem run_str_new (w : World) (l : List Int) (cap : Nat) :
    (convert 46 9 (.slice (some ⟨w.heap.size, 0, none⟩) l.length cap)).run Tryd.prog (w.alloc (.cells (u8i l).toArray 5)) = .ok (.string (strI l)) (w.alloc (.cells (u8i l).toArray 5)) :=
  run_str _ _ _ l (fun j v h => cells_new w (u8i l).toArray 5 j v (by simpa using h))

theorem run_str_own {w : World} {B : Nat} {v : Value} {l : List Int} {n : Nat} (h : w.ownsRow B 5 1 v n (u8i l)) :
    (convert 46 9 v).run Tryd.prog w = .ok (.string (strI l)) w := by
  obtain ⟨hl, ⟨rfl, rfl⟩ | ⟨g, cap, cur, rfl, hB, hg, hn, hc, hz, ht⟩⟩ := h
  · have : l = [] := by simpa [u8i] using hl
    subst this
    rw [run_convert_bytes_string w 46 9 5 none 0 0 Tryd.underlying46 Tryd.underlying5 Tryd.underlying9]; rfl
  · have hln : n = l.length := by simp [u8i] at hl; omega
    subst hln
    refine run_str w _ cap l (fun j u hj => ?_)
    have hj' : cur[j]? = some u := by
      rw [← ht] at hj
      rw [List.getElem?_take] at hj
      split at hj
      · simpa using hj
      · cases hj
    have hb : ((⟨g, 0, none⟩ : Addr).add j) = ⟨g, j, none⟩ := by
      unfold Addr.add; split
      · rename_i h0; rw [h0]
      · simp
    rw [hb]
    simp [World.cell?, hg, hj']
set_option maxRecDepth 100000 in
set_option maxHeartbeats 400000 in
theorem f41_1 (c : Int) (w : World) (h1 : 0 ≤ c) (h2 : c < 128) :
    Calls Tryd.prog 41 #[.int .i32 c] w fun e w' => e = .returned (.string (strI [c])) ∧ Below w.heap.size w w' := by
  have es : (convert 46 9 (.slice (some ⟨w.heap.size, 0, none⟩) 1 1)).run Tryd.prog (w.alloc (.cells #[.int .u8 (c)] 5)) = .ok (.string (strI [c])) (w.alloc (.cells #[.int .u8 (c)] 5)) := run_str_new w [c] 1
  go_enter Tryd.func41, Tryd.ntmps41
  go_wp2
  go_ret
  exact ⟨rfl, (Below.refl _ _).alloc (Nat.le_refl _) _⟩
set_option maxRecDepth 100000 in
set_option maxHeartbeats 400000 in
theorem f41_2 (c : Int) (w : World) (h1 : 128 ≤ c) (h2 : c < 2048) :
    Calls Tryd.prog 41 #[.int .i32 c] w fun e w' => e = .returned (.string (strI [192 + c / 64, 128 + c % 64])) ∧ Below w.heap.size w w' := by
  have es : (convert 46 9 (.slice (some ⟨w.heap.size, 0, none⟩) 2 2)).run Tryd.prog (w.alloc (.cells #[.int .u8 (192 + c / 64), .int .u8 (128 + c % 64)] 5)) = .ok (.string (strI [192 + c / 64, 128 + c % 64])) (w.alloc (.cells #[.int .u8 (192 + c / 64), .int .u8 (128 + c % 64)] 5)) := run_str_new w [192 + c / 64, 128 + c % 64] 2
  go_enter Tryd.func41, Tryd.ntmps41
  go_wp2
  go_ret
  exact ⟨rfl, (Below.refl _ _).alloc (Nat.le_refl _) _⟩
set_option maxRecDepth 100000 in
set_option maxHeartbeats 400000 in
theorem f41_3 (c : Int) (w : World) (h1 : 2048 ≤ c) (h2 : c < 65536) :
    Calls Tryd.prog 41 #[.int .i32 c] w fun e w' => e = .returned (.string (strI [224 + c / 4096, 128 + c / 64 % 64, 128 + c % 64])) ∧ Below w.heap.size w w' := by
  have es : (convert 46 9 (.slice (some ⟨w.heap.size, 0, none⟩) 3 3)).run Tryd.prog (w.alloc (.cells #[.int .u8 (224 + c / 4096), .int .u8 (128 + c / 64 % 64), .int .u8 (128 + c % 64)] 5)) = .ok (.string (strI [224 + c / 4096, 128 + c / 64 % 64, 128 + c % 64])) (w.alloc (.cells #[.int .u8 (224 + c / 4096), .int .u8 (128 + c / 64 % 64), .int .u8 (128 + c % 64)] 5)) := run_str_new w [224 + c / 4096, 128 + c / 64 % 64, 128 + c % 64] 3
  go_enter Tryd.func41, Tryd.ntmps41
  go_wp2
  go_ret
  exact ⟨rfl, (Below.refl _ _).alloc (Nat.le_refl _) _⟩
set_option maxRecDepth 100000 in
set_option maxHeartbeats 400000 in
theorem f41_4 (c : Int) (w : World) (h1 : 65536 ≤ c) (h2 : c ≤ 1114111) :
    Calls Tryd.prog 41 #[.int .i32 c] w fun e w' => e = .returned (.string (strI [240 + c / 262144, 128 + c / 4096 % 64, 128 + c / 64 % 64, 128 + c % 64])) ∧ Below w.heap.size w w' := by
  have es : (convert 46 9 (.slice (some ⟨w.heap.size, 0, none⟩) 4 4)).run Tryd.prog (w.alloc (.cells #[.int .u8 (240 + c / 262144), .int .u8 (128 + c / 4096 % 64), .int .u8 (128 + c / 64 % 64), .int .u8 (128 + c % 64)] 5)) = .ok (.string (strI [240 + c / 262144, 128 + c / 4096 % 64, 128 + c / 64 % 64, 128 + c % 64])) (w.alloc (.cells #[.int .u8 (240 + c / 262144), .int .u8 (128 + c / 4096 % 64), .int .u8 (128 + c / 64 % 64), .int .u8 (128 + c % 64)] 5)) := run_str_new w [240 + c / 262144, 128 + c / 4096 % 64, 128 + c / 64 % 64, 128 + c % 64] 4
  go_enter Tryd.func41, Tryd.ntmps41
  go_wp2
  go_ret
  exact ⟨rfl, (Below.refl _ _).alloc (Nat.le_refl _) _⟩

theorem f41_any (n : Nat) (hc : n ≤ 1114111) (w : World) :
    Calls Tryd.prog 41 #[.int .i32 (n : Int)] w fun e w' => e = .returned (.string (str (Ch.encN n))) ∧ Below w.heap.size w w' := by
  rw [← strI_nat, ← encI_nat]
  by_cases h1 : n < 128
  · rw [show encI (n : Int) = [(n : Int)] by unfold encI; rw [if_pos (by omega)]]
    exact f41_1 _ w (by omega) (by omega)
  · by_cases h2 : n < 2048
    · rw [show encI (n : Int) = [192 + (n : Int) / 64, 128 + (n : Int) % 64] by unfold encI; rw [if_neg (by omega), if_pos (by omega)]]
      exact f41_2 _ w (by omega) (by omega)
    · by_cases h3 : n < 65536
      · rw [show encI (n : Int) = [224 + (n : Int) / 4096, 128 + (n : Int) / 64 % 64, 128 + (n : Int) % 64] by unfold encI; rw [if_neg (by omega), if_neg (by omega), if_pos (by omega)]]
        exact f41_3 _ w (by omega) (by omega)
      · rw [show encI (n : Int) = [240 + (n : Int) / 262144, 128 + (n : Int) / 4096 % 64, 128 + (n : Int) / 64 % 64, 128 + (n : Int) % 64] by unfold encI; rw [if_neg (by omega), if_neg (by omega), if_neg (by omega)]]
        exact f41_4 _ w (by omega) (by omega)
end Go.Proofs.YtllnfiidmpopkaaDoor
