/-
  What FormatUint returns at base 10: the decimal digits. The lines of the walk follow the kit's own walk of FormatInt.
-/
import Derived.Test.YthmmjihldkjhhaaGreatDoorPsmall
import Derived.Test.YthmmjihldkjhhaaGreatDoorShelf
import Derived.Lib.ItoaMem
import Derived.Lib.AppendIntMem
namespace Go.Proofs.YthmmjihldkjhhaaGreatDoor
open Go Go.RowKit Go.Sort Go.Lib

/-- The table of the powers of ten lies where it is wanted. -/
def Pow (w : World) : Prop := Lib.TabIs Tryz.prog w "internal/strconv.uint64pow10" .u64 Lib.pow10Tab
theorem decDigits_digs (u : Nat) : (Lib.decDigits u).map UInt8.toNat = Dc.digs u := by
  refine Dc.digs_induct (P := fun u => (Lib.decDigits u).map UInt8.toNat = Dc.digs u) ?_ ?_ u
  · intro n hn
    rw [Lib.decDigits, dif_pos hn, Dc.digs_low hn]
    simp [UInt8.toNat_ofNat']; omega
  · intro n hn ih
    rw [Lib.decDigits, dif_neg (by omega), Dc.digs_step hn, List.map_append, ih]
    simp [UInt8.toNat_ofNat']; omega
theorem bts_dec (u : Nat) : bts ⟨(Lib.decDigits u).toArray⟩ = Dc.digs u := by rw [← decDigits_digs]; simp [bts]
theorem zeros0 (w : World) (T : TypeId) (nd : Nat) (hs : nd ≤ 24) : Holds (fun (b : UInt8) => Value.int .u8 (b.toNat : Int)) (w.alloc (.cells Lib.zeros24 T)) w.heap.size 0 (Array.replicate nd (0 : UInt8)) := fun j hj => by
  have hj' : j < nd := by simpa using hj
  refine ⟨?_, World.frozen?_alloc_new _ _ _ _⟩
  rw [World.cell?_alloc_new, Lib.zeros24_at _ (by omega), getElem!_pos _ j hj]
  simp
theorem fin0 (w : World) (o : Obj) (dk : Array UInt8) (k : Nat) : ∃ os, (putRow (fun (b : UInt8) => Value.int .u8 (b.toNat : Int)) (w.alloc o) w.heap.size 0 dk).drewN k = grow (w.drewN k) os := by
  rw [alloc_eq_grow]
  obtain ⟨os', _, e⟩ := putRow_grow_new (fun (b : UInt8) => Value.int .u8 (b.toNat : Int)) w #[o] w.heap.size 0 dk (Nat.le_refl _)
  exact ⟨os', by rw [e]; rfl⟩

theorem conv_row {u v' : Nat} (w : World) (dk : Array UInt8) (k : Nat) (hH : Holds (fun (b : UInt8) => Value.int .u8 (b.toNat : Int)) (w.alloc (.cells Lib.zeros24 107)) w.heap.size 0 (Array.replicate (Lib.nDigits u) (0 : UInt8))) (hF : FmtInv (Lib.nDigits u) u 0 v' dk) :
    (convert 58 9 (.slice (some ⟨w.heap.size, 0, none⟩) (Lib.nDigits u) 24)).run Tryz.prog ((putRow (fun (b : UInt8) => Value.int .u8 (b.toNat : Int)) (w.alloc (.cells Lib.zeros24 107)) w.heap.size 0 dk).drewN k) = .ok (.string ⟨(Lib.decDigits u).toArray⟩) ((putRow (fun (b : UInt8) => Value.int .u8 (b.toNat : Int)) (w.alloc (.cells Lib.zeros24 107)) w.heap.size 0 dk).drewN k) := by
  have h := run_convert_bytes_back (P := Tryz.prog) ((putRow (fun (b : UInt8) => Value.int .u8 (b.toNat : Int)) (w.alloc (.cells Lib.zeros24 107)) w.heap.size 0 dk).drewN k) 58 9 5 ⟨w.heap.size, 0, none⟩ 24 (Lib.decDigits u) Tryz.underlying58 Tryz.underlying5 Tryz.underlying9 (fun j hj => by
    rw [Lib.row_is_numeral hF j hj, Lib.add_plain, World.cell?_drewN]
    exact cell?_putRow (fun (b : UInt8) => Value.int .u8 (b.toNat : Int)) _ w.heap.size 0 _ dk hH (by rw [hF.size, Array.size_replicate]) j (by rw [hF.size]; rw [Lib.decDigits_length] at hj; exact hj))
  rw [Lib.decDigits_length] at h
  exact h

set_option maxRecDepth 100000 in
set_option maxHeartbeats 2000000 in
theorem fuint_in (u : Nat) (hu64 : u < 18446744073709551616) (w : World) (htab : Pow w) : Calls Tryz.prog 99 #[.int .u64 (u : Int), .int .i64 10] w fun e w' => e = .returned (.string ⟨(Lib.decDigits u).toArray⟩) ∧ Below w.heap.size w w' := by
  by_cases h100 : u < 100
  · have d1 : decide (u < 100) = true := decide_eq_true h100
    go_enter Tryz.func99, Tryz.ntmps99
    go_wp2_with (go_at_call 94; refine (Tryz.internal_strconv_small u h100 _).mono ?_; rintro e w' ⟨rfl, rfl⟩)
    go_ret
    exact ⟨rfl, Below.refl _ _⟩
  · have d1 : decide (u < 100) = false := decide_eq_false h100
    have hu1 : 1 ≤ u := by omega
    have hnd20 : Lib.nDigits u ≤ 20 := by have := Lib.numDigits_eq u hu1 hu64; split at this <;> omega
    have hal : Tryz.prog.arrayLen 107 = 24 := by kernel_rfl
    have hsl1 : ∀ W, (Instr.sliceAt 107 (.pointer (some ⟨w.heap.size, 0, none⟩)) none (some (.int .i64 (Lib.nDigits u : Int))) none).run Tryz.prog W = .ok (.slice (some ⟨w.heap.size, 0, none⟩) (Lib.nDigits u) 24) W := fun W => by
      rw [run_sliceAt_array_h W 107 ⟨w.heap.size, 0, none⟩ (by simp [Program.arrayLen, Program.elem, Tryz.underlying107]) .i64 (Lib.nDigits u : Int) (by omega) (by rw [hal]; omega)]
      go_simp
    have hH0 := zeros0 w 107 (Lib.nDigits u) (by omega)
    have hfmt := Tryz.internal_strconv_formatBase10 w.heap.size 0 24 u (Array.replicate (Lib.nDigits u) 0) (w.alloc (.cells Lib.zeros24 107)) hH0 (by rw [Array.size_replicate]; exact Lib.lt_pow_nDigits u) hu64 (by rw [Array.size_replicate]; omega)
    rw [Array.size_replicate] at hfmt
    have HH0 := Lib.hid hH0
    have HF : Hid _ := Lib.hid hfmt
    have HT : Hid _ := Lib.hid htab
    clear hH0 hal hfmt htab
    go_enter Tryz.func99, Tryz.ntmps99
    go_wp2_with (first
      | (go_at_call 95; refine (Tryz.internal_strconv_numDigits u hu1 hu64 _ (Lib.tabIs_alloc HT.out _)).mono ?_; rintro e w' ⟨rfl, rfl⟩)
      | (go_at_call 96; refine (HF.out).mono ?_; rintro e w' ⟨rfl, k, v', dk, rfl, hF⟩; have HFF : Hid _ := Lib.hid hF; clear hF; have hcv := conv_row w dk k HH0.out HFF.out))
    go_ret
    obtain ⟨os, eo⟩ := fin0 w (.cells Lib.zeros24 107) dk k
    exact ⟨rfl, by rw [eo]; exact Lib.below_grow _ _ (Nat.le_refl _) _ _⟩
set_option maxRecDepth 100000 in
theorem fuint_any (u : Nat) (hu64 : u < 18446744073709551616) (w : World) (htab : Pow w) : Calls Tryz.prog 79 #[.int .u64 (u : Int), .int .i64 10] w fun e w' => (∃ t : ByteArray, e = .returned (.string t) ∧ bts t = Dc.digs u) ∧ Below w.heap.size w w' := by
  have C : Hid _ := Lib.hid (fuint_in u hu64 w htab)
  clear htab
  go_enter Tryz.func79, Tryz.ntmps79
  go_wp2_with (go_at_call 99; refine (C.out).mono ?_; rintro e w' ⟨rfl, hb⟩)
  go_ret
  exact ⟨⟨_, rfl, bts_dec u⟩, hb⟩
end Go.Proofs.YthmmjihldkjhhaaGreatDoor
