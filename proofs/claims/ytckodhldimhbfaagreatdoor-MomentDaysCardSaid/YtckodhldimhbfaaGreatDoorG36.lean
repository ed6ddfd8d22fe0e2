/-
  Part 36 of the proof: what functions return, and plain facts (Mread0). Conditions: each theorem names its own.
-/
import Derived.Test.YtckodhldimhbfaaGreatDoorG34
import Derived.Test.YtckodhldimhbfaaGreatDoorG35
set_option maxRecDepth 1000000
set_option maxHeartbeats 16000000
namespace Go.Proofs.YtckodhldimhbfaaGreatDoor
open Go Go.RowKit

theorem other_dec {k : Int} (h1 : k ≠ 1) (h2 : k ≠ 2) (h3 : k ≠ 3) : (k == 1) = false /\ (k == 2) = false /\ (k == 3) = false := ⟨beq_false_of_ne h1, beq_false_of_ne h2, beq_false_of_ne h3⟩
theorem pdated0 (k : Int) (h1 : k ≠ 1) (h2 : k ≠ 2) (h3 : k ≠ 3) (w : World) : Calls Tryz.prog 33 #[.int .i64 k] w fun e w' => e = .returned (.bool false) /\ w = w' := by
 obtain ⟨e1, e2, e3⟩ := other_dec h1 h2 h3
 go_enter Tryz.func33, Tryz.ntmps33
 go_wp2
 go_ret
 exact ⟨rfl, rfl⟩
theorem ptimed0 (k : Int) (h1 : k ≠ 1) (h2 : k ≠ 2) (h3 : k ≠ 3) (w : World) : Calls Tryz.prog 50 #[.int .i64 k] w fun e w' => e = .returned (.bool false) /\ w = w' := by
 obtain ⟨e1, e2, e3⟩ := other_dec h1 h2 h3
 go_enter Tryz.func50, Tryz.ntmps50
 go_wp2
 go_ret
 exact ⟨rfl, rfl⟩
theorem rdated0 (k : Int) (h1 : k ≠ 1) (h2 : k ≠ 2) (h3 : k ≠ 3) (w : World) : Calls Tryz.prog 43 #[.int .i64 k] w fun e w' => e = .returned (.bool false) /\ w = w' := by
 obtain ⟨e1, e2, e3⟩ := other_dec h1 h2 h3
 go_enter Tryz.func43, Tryz.ntmps43
 go_wp2
 go_ret
 exact ⟨rfl, rfl⟩
theorem rtimed0 (k : Int) (h1 : k ≠ 1) (h2 : k ≠ 2) (h3 : k ≠ 3) (w : World) : Calls Tryz.prog 58 #[.int .i64 k] w fun e w' => e = .returned (.bool false) /\ w = w' := by
 obtain ⟨e1, e2, e3⟩ := other_dec h1 h2 h3
 go_enter Tryz.func58, Tryz.ntmps58
 go_wp2
 go_ret
 exact ⟨rfl, rfl⟩
theorem pread0 (k : Int) (h1 : k ≠ 1) (h2 : k ≠ 2) (h3 : k ≠ 3) (l : ByteArray) (w : World) : Calls Tryz.prog 11 #[.int .i64 k, .string l] w fun e w' => e = .returned (.tuple #[(Mo.readM k (bts l)).1.val, .int .i64 (Mo.readM k (bts l)).2]) /\ Below w.heap.size w w' := by
 have HR : Hid (Mo.readM k (bts l) = (Mo.nil, 2)) := Lib.hid (by unfold Mo.readM; rw [if_neg (by omega)])
 have HD := Lib.hid (pdated0 k h1 h2 h3)
 have HT := Lib.hid (ptimed0 k h1 h2 h3)
 clear h1 h2 h3
 go_enter_defers Tryz.func11, Tryz.ntmps11
 go_upto_region 2 with (first
  | (go_at_call 33; refine (HD.out _).mono ?_; rintro e w1 ⟨rfl, rfl⟩)
  | (go_at_call 50; refine (HT.out _).mono ?_; rintro e w1 ⟨rfl, rfl⟩)
  | (refine wl_allocA rfl zero_mo rfl (fun W2 b2 hb => ?_); have hB := hb; clear hb))
 have l2 := b2.lt
 have b3 := Blk.new W2 27 #[.int .i64 0]
 replace b2 := b2.old (.cells #[.int .i64 0] 27)
 replace hB := hB.alloc hB.size (.cells #[.int .i64 0] 27)
 have hle := hB.size
 generalize W2.alloc (.cells #[.int .i64 0] 27) = W3 at *
 obtain ⟨mb, hmb⟩ : ∃ mb, mb = w.heap.size := ⟨_, rfl⟩
 obtain ⟨eb, heb⟩ : ∃ eb, eb = W2.heap.size := ⟨_, rfl⟩
 rw [<- hmb] at b2 l2 ⊢
 rw [<- heb] at b3 l2 ⊢
 have lm : w.heap.size <= mb := by omega
 have le : w.heap.size <= eb := by omega
 clear hmb heb
 go_wp2_with (first
  | (refine wl_loadA b2 rfl (by kernel_rfl) _ rfl rfl ?_)
  | (refine wl_storeA b2 rfl _ _ rfl rfl rfl (by kernel_rfl) rfl rfl rfl (fun W8 b8 hg => ?_); replace b3 := b3.far hg (by omega); replace hB := below_far hB hB.size lm hg; clear hg)
  | (refine wl_storeC b3 rfl _ _ rfl rfl rfl rfl (by kernel_rfl) (Nat.le_of_ble_eq_true rfl) rfl (fun W9 b9 hg => ?_); replace b8 := b8.far hg (by omega); replace hB := below_far hB hB.size le hg; clear hg))
 exact ⟨_, res_cells rfl b8 b9 rfl rfl, by rw [HR.out], hB⟩
theorem rread0 (k : Int) (h1 : k ≠ 1) (h2 : k ≠ 2) (h3 : k ≠ 3) (l : ByteArray) (w : World) : Calls Tryz.prog 12 #[.int .i64 k, .string l] w fun e w' => e = .returned (.tuple #[(Mo.readM k (bts l)).1.val, .int .i64 (Mo.readM k (bts l)).2]) /\ Below w.heap.size w w' := by
 have HR : Hid (Mo.readM k (bts l) = (Mo.nil, 2)) := Lib.hid (by unfold Mo.readM; rw [if_neg (by omega)])
 have HD := Lib.hid (rdated0 k h1 h2 h3)
 have HT := Lib.hid (rtimed0 k h1 h2 h3)
 clear h1 h2 h3
 go_enter Tryz.func12, Tryz.ntmps12
 go_wp2_with (first
  | (go_at_call 43; refine (HD.out _).mono ?_; rintro e w1 ⟨rfl, rfl⟩)
  | (go_at_call 58; refine (HT.out _).mono ?_; rintro e w1 ⟨rfl, rfl⟩)
  | (refine wl_allocA rfl zero_mo rfl (fun W2 b2 hb => ?_); have hB := hb; clear hb)
  | (refine wl_storeA b2 rfl _ _ rfl rfl rfl (by kernel_rfl) rfl rfl rfl (fun W8 b8 hg => ?_); have hB8 := below_far hB hB.size (Nat.le_refl _) hg; clear hg))
 exact bodyPost_ret (res_cell_tmp rfl b8 (by kernel_rfl) rfl rfl) rfl ⟨by rw [HR.out]; rfl, hB8⟩
theorem pread_m (k : Int) (l : ByteArray) (hs : l.size <= 300) (w : World) (M : Int) (hV : Vars M w) : Calls Tryz.prog 11 #[.int .i64 k, .string l] w fun e w' => e = .returned (.tuple #[(Mo.readM k (bts l)).1.val, .int .i64 (Mo.readM k (bts l)).2]) /\ Below w.heap.size w w' := by
 by_cases h1 : k = 1
 ·rw [h1]; exact pread1 l hs w M hV
 by_cases h2 : k = 2
 ·rw [h2]; exact pread2 l hs w M hV
 by_cases h3 : k = 3
 ·rw [h3]; exact pread3 l hs w M hV
 exact pread0 k h1 h2 h3 l w
theorem rread_m (k : Int) (l : ByteArray) (hs : l.size <= 300) (w : World) (M : Int) (hV : Vars M w) : Calls Tryz.prog 12 #[.int .i64 k, .string l] w fun e w' => e = .returned (.tuple #[(Mo.readM k (bts l)).1.val, .int .i64 (Mo.readM k (bts l)).2]) /\ Below w.heap.size w w' := by
 by_cases h1 : k = 1
 ·rw [h1]; exact rread1 l hs w M hV
 by_cases h2 : k = 2
 ·rw [h2]; exact rread2 l hs w M hV
 by_cases h3 : k = 3
 ·rw [h3]; exact rread3 l hs w M hV
 exact rread0 k h1 h2 h3 l w
end Go.Proofs.YtckodhldimhbfaaGreatDoor
