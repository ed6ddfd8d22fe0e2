/-
  Part 36 of the proof: what functions return, and plain facts (Mpread). Conditions: each theorem names its own.
-/
import Derived.Test.YthoojcdjjecogaaGreatDoorG28
import Derived.Test.YthoojcdjjecogaaGreatDoorG33
import Derived.Test.YthoojcdjjecogaaGreatDoorG35
import Derived.Defers
import Derived.Recover
set_option maxRecDepth 1000000
set_option maxHeartbeats 16000000
namespace Go.Proofs.YthoojcdjjecogaaGreatDoor
open Go Go.RowKit
structure PR (w0 w : World) (p r m b : Nat) (s : ByteArray) (x : Mo) (e : Int) : Prop where
 pd : PD w p r m s x
 er : Blk w b 30 #[.int .i64 e]
 mb : m ≠ b
 br : b ≠ r
 bp : b ≠ p
 low : w0.heap.size <= r /\ w0.heap.size <= m /\ w0.heap.size <= b
 bel : Below w0.heap.size w0 w
section
variable {w0 w w' : World} {p r m b : Nat} {s t : ByteArray} {x y : Mo} {e f : Int}
theorem below_ch {B : Nat} {S : List Nat} {a b c : World} (h : Below B a b) (hB : B <= a.heap.size) (k : Ch S b c) (hS : ∀ i ∈ S, B <= i) : Below B a c := h.trans (k.below (Nat.le_trans hB h.size) hS)
theorem PR.call (h : PR w0 w p r m b s x e) (hc : Ch [r] w w') (hr : RP w' p r t) : PR w0 w' p r m b t x e :=
 ⟨h.pd.call hc hr, hc.blk h.er (by simpa using h.br), h.mb, h.br, h.bp, h.low, below_ch h.bel (Nat.le_refl _) hc (by simpa using h.low.1)⟩
theorem PR.part (h : PR w0 w p r m b s x e) (hc : Ch [r, m] w w') (hd : PD w' p r m t y) : PR w0 w' p r m b t y e :=
 ⟨hd, hc.blk h.er (by have := h.br; have := Ne.symm h.mb; simp; omega), h.mb, h.br, h.bp, h.low, below_ch h.bel (Nat.le_refl _) hc (by have := h.low; simp; omega)⟩
theorem PR.store (h : PR w0 w p r m b s x e) (hb : Blk w' m 26 y.list.toArray) (hg : w.grownBy w' (some m)) : PR w0 w' p r m b s y e :=
 ⟨h.pd.store hb hg, h.er.far hg (Ne.symm h.mb), h.mb, h.br, h.bp, h.low, below_far h.bel h.bel.size h.low.2.1 hg⟩
end
end Go.Proofs.YthoojcdjjecogaaGreatDoor
