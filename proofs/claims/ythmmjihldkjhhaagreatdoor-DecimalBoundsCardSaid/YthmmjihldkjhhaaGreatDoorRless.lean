/-
  What 'less' of the reference returns. Conditions: the sizes; rows of digits.
-/
import Derived.Test.YthmmjihldkjhhaaGreatDoorRstr
import Derived.Test.YthmmjihldkjhhaaGreatDoorDtext
import Derived.WalkLawsBesides
namespace Go.Proofs.YthmmjihldkjhhaaGreatDoor
open Go Go.RowKit

/-- A row of digits that is not empty. -/
structure Digs (s : ByteArray) : Prop where
  all : (bts s).all Dc.dig = true
  ne : bts s ≠ []
theorem Digs.bare {s : ByteArray} (h : Digs s) : Dc.bare (bts s) = Dc.digs (Dc.val (bts s)) := Dc.bare_eq h.all h.ne
theorem rbare_digs (s : ByteArray) (hs : s.size ≤ 1000000) (h : Digs s) (w : World) : Calls Tryz.prog 68 #[.string s] w fun e w' => (∃ t : ByteArray, e = .returned (.string t) ∧ t = str (Dc.digs (Dc.val (bts s)))) ∧ w = w' := by
  refine (rbare_any s hs w).mono ?_
  rintro e w' ⟨⟨t, rfl, ht⟩, rfl⟩
  exact ⟨⟨t, rfl, by rw [ht, h.bare]⟩, rfl⟩
theorem digs_lt (n : Nat) : ∀ b ∈ Dc.digs n, b < 256 := fun b hb => by
  have := Dc.dig_iff.1 (List.all_eq_true.1 (Dc.digs_dig n) b hb); omega
theorem bts_digs (n : Nat) : bts (str (Dc.digs n)) = Dc.digs n := bts_str _ (digs_lt n)

theorem bytesLess_lex : ∀ l m : List UInt8, Op.bytesLess l m = Dc.lexLt (l.map UInt8.toNat) (m.map UInt8.toNat)
  | [], [] => rfl
  | [], _ :: _ => rfl
  | _ :: _, [] => rfl
  | a :: l, b :: m => by
    have ih := bytesLess_lex l m
    unfold Op.bytesLess
    rw [ih]
    have hb : (a == b) = decide (a.toNat = b.toNat) := by
      rw [Bool.eq_iff_iff, beq_iff_eq, decide_eq_true_eq]; exact UInt8.toNat_inj.symm
    simp only [List.map_cons, Dc.lexLt, hb, UInt8.lt_iff_toNat_lt]
set_option maxRecDepth 100000 in
set_option maxHeartbeats 1000000 in
theorem rless_any (s t : ByteArray) (hs : s.size ≤ 1000000) (ht : t.size ≤ 1000000) (h1 : Digs s) (h2 : Digs t) (w : World) : Calls Tryz.prog 58 #[.string s, .string t] w fun e w' => e = .returned (.bool (decide (Dc.val (bts s) < Dc.val (bts t)))) ∧ w = w' := by
  have C1 : Hid _ := Lib.hid (rbare_digs s hs h1)
  have C2 : Hid _ := Lib.hid (rbare_digs t ht h2)
  have tok1 : True := trivial
  go_enter Tryz.func58, Tryz.ntmps58
  go_wp2_with (first
    | (go_at_call 68; have _t := tok1; refine (C1.out _).mono ?_; rintro e w1 ⟨⟨x, rfl, hx⟩, rfl⟩; have HX : Hid _ := Lib.hid hx; clear hx tok1 _t)
    | (go_at_call 68; refine (C2.out _).mono ?_; rintro e w1 ⟨⟨y, rfl, hy⟩, rfl⟩; have HY : Hid _ := Lib.hid hy; clear hy))
  all_goals go_ret
  all_goals
    have key := Dc.lex_digs (x := Dc.val (bts s)) (y := Dc.val (bts t))
    have e1 : x.size = (Dc.digs (Dc.val (bts s))).length := by rw [HX.out, str_size]
    have e2 : y.size = (Dc.digs (Dc.val (bts t))).length := by rw [HY.out, str_size]
    have e3 : Op.bytesLess x.toList y.toList = Dc.lexLt (Dc.digs (Dc.val (bts s))) (Dc.digs (Dc.val (bts t))) := by
      rw [bytesLess_lex, ← bts_digs (Dc.val (bts s)), ← bts_digs (Dc.val (bts t)), ← HX.out, ← HY.out, ByteArray.toList_eq, ByteArray.toList_eq]; rfl
    refine ⟨ret_bool ?_, rfl⟩
    rw [← key, ← e1, ← e2, ← e3]
    cases Op.bytesLess x.toList y.toList <;> rw [Bool.eq_iff_iff] <;> simp only [Bool.or_eq_true, Bool.and_eq_true, decide_eq_true_eq, Bool.false_eq_true, and_false, or_false, and_true, true_iff] <;> first | omega | (constructor <;> intro _ <;> first | omega | exact .inr trivial | exact .inr (by omega))
end Go.Proofs.YthmmjihldkjhhaaGreatDoor
