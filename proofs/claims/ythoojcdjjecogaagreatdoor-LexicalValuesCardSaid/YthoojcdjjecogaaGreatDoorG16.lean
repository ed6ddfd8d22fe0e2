/-
  Part 16 of the proof: what functions return, and plain facts (Mlocal Mcmp Mcmp2). Conditions: each theorem names its own.
-/
import Derived.Test.YthoojcdjjecogaaGreatDoorG15
import Derived.Test.YthoojcdjjecogaaGreatDoorG14
set_option maxRecDepth 1000000
set_option maxHeartbeats 16000000
namespace Go.Proofs.YthoojcdjjecogaaGreatDoor
open Go Go.RowKit Go.Ex
namespace Mo
def secT (x : Mo) : Int := Dc.at_ 60 (rawD x.n x.s x.S)
end Mo
theorem sec_lt {x : Mo} (h : x.secB = true) : okB x.n x.s x.S = true /\ x.n = false /\ 0 <= x.secT /\ x.secT < 60 * Dc.U := by
 unfold Mo.secB at h
 simp only [Bool.and_eq_true, Bool.not_eq_true', decide_eq_true_eq] at h
 obtain ⟨h1, h2, h3⟩ := h
 have k := okB_ok h1
 have h6 : Dc.ok (false, 60, 0) := Dc.int_ok (k := 60) (by decide)
 rw [sec_cmp, if_pos h1] at h3
 simp only at h3
 rw [Dc.cmp60 k.can h6, show Dc.at_ 60 (false, 60, 0) = 60 * Dc.U from rfl] at h3
 refine ⟨h1, h2, ?_, ?_⟩
 ·have := Dc.at_neg (K := 60) k.can
  rcases Int.lt_or_le x.secT 0 with c | c
  ·have q := this.1 c
   rw [show (rawD x.n x.s x.S).1 = x.n from rfl, h2] at q
   cases q
  ·exact c
 ·show Dc.at_ 60 (rawD x.n x.s x.S) < _
  split at h3
  ·assumption
  ·split at h3 <;> omega
theorem ok_time {x : Mo} (h : Mo.Ok x) (hk : x.k ≠ 1) : Mo.timeOk x := by have := h.2.2.2.2.2; rwa [if_neg hk] at this
end Go.Proofs.YthoojcdjjecogaaGreatDoor
namespace Go.Proofs.YthoojcdjjecogaaGreatDoor
open Go Go.RowKit Go.Ex
theorem okB_Ok {x : Mo} (h : Mo.okB x = true) : Mo.Ok x := of_decide_eq_true h
end Go.Proofs.YthoojcdjjecogaaGreatDoor
