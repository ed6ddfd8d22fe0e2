/-
  Part 5 of the proof: what functions return, and plain facts (Rmade). Conditions: each theorem names its own.
-/
import Derived.Test.YthoojcdjjecogaaGreatDoorG04
set_option maxRecDepth 1000000
set_option maxHeartbeats 16000000
namespace Go.Proofs.YthoojcdjjecogaaGreatDoor
open Go Go.RowKit
def madeEnd : Option Dc.D -> Ending
 | some a => .returned (.tuple #[.agg #[.bool a.1, .string (str (Dc.digs a.2.1)), .int .i64 (a.2.2 : Int)], .int .i64 0])
 | none => .returned (.tuple #[.agg #[.bool false, .string ⟨#[]⟩, .int .i64 0], .int .i64 7])
theorem made_zero {neg : Bool} {v S : Nat} (h : v = 0) : Ending.returned (.tuple #[.agg #[.bool false, .string ⟨#[48]⟩, .int .i64 0], .int .i64 0]) = madeEnd (Dc.can neg v S) := by
 subst h; rfl
theorem made_range {neg : Bool} {v S x T : Nat} (h : v ≠ 0) (hs : Dc.strip v S = (x, T)) (hr : 60 < (Dc.digs x).length \/ 60 < T) : Ending.returned (.tuple #[.agg #[.bool false, .string ⟨#[]⟩, .int .i64 0], .int .i64 7]) = madeEnd (Dc.can neg v S) := by
 unfold Dc.can; rw [if_neg h, hs, if_pos hr]; rfl
theorem made_good {neg : Bool} {v S x T : Nat} (h : v ≠ 0) (hs : Dc.strip v S = (x, T)) (hr : ¬ (60 < (Dc.digs x).length \/ 60 < T)) {t : ByteArray} (ht : t = str (Dc.digs x)) : Ending.returned (.tuple #[.agg #[.bool neg, .string t, .int .i64 (T : Int)], .int .i64 0]) = madeEnd (Dc.can neg v S) := by
 unfold Dc.can; rw [if_neg h, hs, if_neg hr, ht]; rfl

end Go.Proofs.YthoojcdjjecogaaGreatDoor
