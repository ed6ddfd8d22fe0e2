/-
  What 'shown' of the statements returns: true, where the program's variables hold what its text lays. Condition: those variables.
-/
import Derived.Test.YtllnfiidmpopkaaDoorUnescape
import Derived.Test.YtllnfiidmpopkaaDoorUnescapeRef
import Derived.Test.YtllnfiidmpopkaaDoorSqueeze2
namespace Go.Proofs.YtllnfiidmpopkaaDoor
open Go Go.RowKit

/-- The variables that the program and its library read stand. -/
structure Good (w : World) : Prop where
  rng : Rng w
  esc : EscVar w
  err : ErrVar w
  mx : ∃ m : Int, w.cell? ⟨2, 0, none⟩ = some (.int .i64 m)
theorem Good.next {w w' : World} (h : Good w) (hb : Below w.heap.size w w') : Good w' := by
  refine ⟨h.rng.next hb, h.esc.next hb, h.err.next hb h.err.lt, ?_⟩
  obtain ⟨m, hm⟩ := h.mx
  exact ⟨m, (hb.cell (p := ⟨2, 0, none⟩) (Nat.lt_trans (by decide) h.err.lt)).trans hm⟩
theorem Good.alloc {w : World} (h : Good w) (o : Obj) : Good (w.alloc o) := h.next ((Below.refl _ _).alloc (Nat.le_refl _) _)

theorem sh1 (w : World) (hG : Good w) : Calls Tryd.prog 24 #[.string ⟨#[97, 195, 164]⟩] w fun e w' => (∃ v, e = .returned (.tuple #[v, .int .i64 0, .int .i64 0]) ∧ R32 w' v [97, 228]) ∧ Below w.heap.size w w' := by
  have hw : wrongI ⟨#[97, 195, 164]⟩ = -1 := by decide +kernel
  have hi : seconds (items ⟨#[97, 195, 164]⟩) = [97, 228] := by decide +kernel
  refine (f24_any ⟨#[97, 195, 164]⟩ (by decide) w hG.rng).mono ?_
  rintro e w' ⟨⟨v, _, rfl, hown⟩ | ⟨h, _⟩, hb⟩
  · rw [hi] at hown; exact ⟨⟨v, rfl, R32.own hown⟩, hb⟩
  · omega
theorem sh2 (w : World) (hG : Good w) : Calls Tryd.prog 24 #[.string ⟨#[97, 192, 128]⟩] w fun e w' => e = .returned (.tuple #[.slice none 0 0, .int .i64 1, .int .i64 6]) ∧ Below w.heap.size w w' := by
  have hw : wrongI ⟨#[97, 192, 128]⟩ = 1 := by decide +kernel
  refine (f24_any ⟨#[97, 192, 128]⟩ (by decide) w hG.rng).mono ?_
  rintro e w' ⟨⟨v, h, _, _⟩ | ⟨_, rfl⟩, hb⟩
  · omega
  · exact ⟨by rw [hw], hb⟩
theorem sh3 (w : World) (hG : Good w) : Calls Tryd.prog 20 #[.string ⟨#[38, 108, 116, 59, 38, 35, 54, 53, 59, 38, 35, 120, 52, 50, 59]⟩] w fun e w' => e = .returned (.tuple #[.string ⟨#[60, 65, 66]⟩, .int .i64 0, .int .i64 0]) ∧ Below w.heap.size w w' := by
  have hw : wrongI ⟨#[38, 108, 116, 59, 38, 35, 54, 53, 59, 38, 35, 120, 52, 50, 59]⟩ = -1 := by decide +kernel
  have hu : unT ⟨#[38, 108, 116, 59, 38, 35, 54, 53, 59, 38, 35, 120, 52, 50, 59]⟩ = .inr [60, 65, 66] := by decide +kernel
  refine (f20_any _ (by decide) w hG.rng hG.esc hG.err).mono ?_
  rintro e w' ⟨rfl, hb⟩
  exact ⟨(unEnd_good hw hu rfl).symm, hb⟩
theorem sh4 (w : World) (hG : Good w) : Calls Tryd.prog 20 #[.string ⟨#[97, 38, 98, 59]⟩] w fun e w' => e = .returned (.tuple #[.string ⟨#[]⟩, .int .i64 1, .int .i64 6]) ∧ Below w.heap.size w w' := by
  have hw : wrongI ⟨#[97, 38, 98, 59]⟩ = -1 := by decide +kernel
  have hu : unT ⟨#[97, 38, 98, 59]⟩ = .inl 1 := by decide +kernel
  refine (f20_any _ (by decide) w hG.rng hG.esc hG.err).mono ?_
  rintro e w' ⟨rfl, hb⟩
  exact ⟨(unEnd_bad hw hu).symm, hb⟩
theorem sh5 (w : World) (hG : Good w) : Calls Tryd.prog 18 #[.string ⟨#[97, 60, 98, 34, 99]⟩, .bool true] w fun e w' => e = .returned (.tuple #[.string ⟨#[97, 38, 108, 116, 59, 98, 38, 113, 117, 111, 116, 59, 99]⟩, .int .i64 0]) ∧ Below w.heap.size w w' := by
  have hw : wrongI ⟨#[97, 60, 98, 34, 99]⟩ = -1 := by decide +kernel
  have hu : str (escAll (bts ⟨#[97, 60, 98, 34, 99]⟩) true) = ⟨#[97, 38, 108, 116, 59, 98, 38, 113, 117, 111, 116, 59, 99]⟩ := by kernel_rfl
  refine (f18_any _ true (by decide) w hG.rng).mono ?_
  rintro e w' ⟨⟨_, rfl⟩ | ⟨h, _⟩, hb⟩
  · exact ⟨by rw [hu], hb⟩
  · omega
theorem sh6 (w : World) (hG : Good w) : Calls Tryd.prog 22 #[.string ⟨#[32, 32, 97, 9, 98]⟩, .int .i64 2] w fun e w' => e = .returned (.tuple #[.string ⟨#[97, 32, 98]⟩, .int .i64 0]) ∧ Below w.heap.size w w' := by
  have hw : wrongI ⟨#[32, 32, 97, 9, 98]⟩ = -1 := by decide +kernel
  have hu : str (sqTwo (bts ⟨#[32, 32, 97, 9, 98]⟩)) = ⟨#[97, 32, 98]⟩ := by kernel_rfl
  obtain ⟨m, hm⟩ := hG.mx
  refine (f22_2 _ (by decide) w hG.rng m hm hw).mono ?_
  rintro e w' ⟨rfl, hb⟩
  exact ⟨by rw [hu], hb⟩
theorem sh7 (w : World) (hG : Good w) : Calls Tryd.prog 16 #[.string ⟨#[97, 45, 49]⟩] w fun e w' => e = .returned (.bool true) ∧ Below w.heap.size w w' := by
  have hu : localB ⟨#[97, 45, 49]⟩ = true := by decide +kernel
  refine (f16_any _ (by decide) w hG.rng).mono ?_
  rintro e w' ⟨rfl, hb⟩
  exact ⟨by rw [hu], hb⟩
theorem sh8 (w : World) (hG : Good w) : Calls Tryd.prog 16 #[.string ⟨#[45, 97]⟩] w fun e w' => e = .returned (.bool false) ∧ Below w.heap.size w w' := by
  have hu : localB ⟨#[45, 97]⟩ = false := by decide +kernel
  refine (f16_any _ (by decide) w hG.rng).mono ?_
  rintro e w' ⟨rfl, hb⟩
  exact ⟨by rw [hu], hb⟩
theorem sh9 (v : Value) (w w0 : World) (hr : R32 w0 v [97, 228]) (hb : Below w0.heap.size w0 w) :
    Calls Tryd.prog 28 #[v, .slice (some ⟨w.heap.size, 0, none⟩) 2 2] (w.alloc (.cells #[.int .i32 97, .int .i32 228] 21)) fun e w' => e = .returned (.bool true) ∧ Below (w.alloc (.cells #[.int .i32 97, .int .i32 228] 21)).heap.size (w.alloc (.cells #[.int .i32 97, .int .i32 228] 21)) w' := by
  have hr2 : R32 (w.alloc (.cells #[.int .i32 97, .int .i32 228] 21)) v [97, 228] := hr.below (hb.alloc hb.size _)
  have hn : R32 (w.alloc (.cells #[.int .i32 97, .int .i32 228] 21)) (.slice (some ⟨w.heap.size, 0, none⟩) 2 2) [97, 228] := by
    refine .inr ⟨w.heap.size, 0, 2, rfl, by simp, fun j hj => ?_⟩
    have h := cells_new w #[.int .i32 97, .int .i32 228] 21 j (.int .i32 (([97, 228] : List Int).getD j 0)) (by
      have : j = 0 ∨ j = 1 := by simp at hj; omega
      rcases this with rfl | rfl <;> rfl)
    have e : ((⟨w.heap.size, 0, none⟩ : Addr).add j) = ⟨w.heap.size, 0 + j, none⟩ := by
      unfold Addr.add; split
      · rename_i h0; rw [h0]
      · rfl
    rw [e] at h
    exact h
  exact f28_any v _ [97, 228] [97, 228] (by decide) _ hr2 hn

set_option maxRecDepth 100000 in
set_option maxHeartbeats 4000000 in
theorem f7_any (w : World) (hG : Good w) : Calls Tryd.prog 7 #[] w fun e w' => e = .returned (.bool true) ∧ Below w.heap.size w w' := by
  have HG : Hid _ := Lib.hid hG
  clear hG
  have tok1 : True := trivial
  have tok3 : True := trivial
  have tok7 : True := trivial
  go_enter Tryd.func7, Tryd.ntmps7
  go_wp2_with (first
    | (go_at_call 24; have _t := tok1; refine (sh1 _ HG.out).mono ?_; rintro e w1 ⟨⟨v, rfl, hr⟩, hb1⟩; have G1 : Hid _ := Lib.hid (HG.out.next hb1); have HR : Hid _ := Lib.hid hr; clear hr; clear tok1 _t)
    | (go_at_call 24; refine (sh2 _ G1.out).mono ?_; rintro e w2 ⟨rfl, hb2⟩; have G2 : Hid _ := Lib.hid (G1.out.next hb2))
    | (go_at_call 20; have _t := tok3; refine (sh3 _ G2.out).mono ?_; rintro e w3 ⟨rfl, hb3⟩; clear tok3 _t; have G3 : Hid _ := Lib.hid (G2.out.next hb3))
    | (go_at_call 20; refine (sh4 _ G3.out).mono ?_; rintro e w4 ⟨rfl, hb4⟩; have G4 : Hid _ := Lib.hid (G3.out.next hb4))
    | (go_at_call 18; refine (sh5 _ G4.out).mono ?_; rintro e w5 ⟨rfl, hb5⟩; have G5 : Hid _ := Lib.hid (G4.out.next hb5))
    | (go_at_call 22; refine (sh6 _ G5.out).mono ?_; rintro e w6 ⟨rfl, hb6⟩; have G6 : Hid _ := Lib.hid (G5.out.next hb6); have B6 := hb2.trans ((hb3.trans ((hb4.trans ((hb5.trans (hb6.mono hb5.size)).mono hb4.size)).mono hb3.size)).mono hb2.size))
    | (go_at_call 28; refine (sh9 v w6 w1 HR.out B6).mono ?_; rintro e w7 ⟨rfl, hb7⟩; have G7 : Hid _ := Lib.hid ((G6.out.alloc _).next hb7))
    | (go_at_call 16; have _t := tok7; refine (sh7 _ G7.out).mono ?_; rintro e w8 ⟨rfl, hb8⟩; clear tok7 _t; have G8 : Hid _ := Lib.hid (G7.out.next hb8))
    | (go_at_call 16; refine (sh8 _ G8.out).mono ?_; rintro e w9 ⟨rfl, hb9⟩))
  go_ret
  go_light
  exact ⟨rfl, hb1.trans ((B6.trans (((((Below.refl _ w6).alloc (Nat.le_refl _) _).trans ((hb7.trans ((hb8.trans (hb9.mono hb8.size)).mono hb7.size)).mono (by simp)))).mono B6.size)).mono hb1.size)⟩
end Go.Proofs.YtllnfiidmpopkaaDoor
