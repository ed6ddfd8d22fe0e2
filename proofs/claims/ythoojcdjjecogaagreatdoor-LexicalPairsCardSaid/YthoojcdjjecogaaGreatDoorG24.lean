/-
  Part 24 of the proof: what functions return, and plain facts (Rread). Conditions: each theorem names its own.
-/
import Derived.Test.YthoojcdjjecogaaGreatDoorG09
set_option maxRecDepth 1000000
set_option maxHeartbeats 16000000
namespace Go.Proofs.YthoojcdjjecogaaGreatDoor
open Go Go.RowKit
def Seen (m : List Nat) (k : Nat) (p : Bool) (al : List Nat) (sc : Nat) : Prop :=
 (p = false /\ k <= (Dc.whole m).length /\ sc = 0) \/ (p = true /\ (Dc.whole m).length < k /\ al = allL m /\ sc = (Dc.part m).length)
theorem Seen.done {m : List Nat} {k : Nat} {al : List Nat} {sc : Nat} (h : Seen m k true al sc) : al = allL m /\ sc = (Dc.part m).length := by
 rcases h with ⟨h, _⟩ | ⟨_, _, h⟩
 ·cases h
 ·exact h
theorem Seen.none {m : List Nat} {al : List Nat} {sc : Nat} (h : Seen m m.length false al sc) : m = allL m /\ sc = (Dc.part m).length := by
 rcases h with ⟨_, h, hs⟩ | ⟨h, _⟩
 ·have h2 := Dc.whole_length m
  obtain ⟨h3, h4⟩ := Dc.whole_all (l := m) (by omega)
  unfold allL
  rw [h4, h3, List.append_nil, hs]; exact ⟨rfl, rfl⟩
 ·cases h
theorem Seen.next {m : List Nat} {k : Nat} {p : Bool} {al : List Nat} {sc : Nat} (h : Seen m k p al sc) (hne : p = true \/ m.getD k 0 ≠ 46) (hk : k < m.length) : Seen m (k + 1) p al sc := by
 rcases h with ⟨h1, h2, h3⟩ | ⟨h1, h2, h3⟩
 ·refine .inl ⟨h1, ?_, h3⟩
  rcases Nat.lt_or_ge k (Dc.whole m).length with h | h
  ·exact h
  ·exfalso
   have e : k = (Dc.whole m).length := by omega
   rcases hne with hp | hp
   ·rw [h1] at hp; cases hp
   ·rw [e] at hp hk
    exact hp (Dc.whole_at hk).1
 ·exact .inr ⟨h1, by omega, h3⟩
end Go.Proofs.YthoojcdjjecogaaGreatDoor
