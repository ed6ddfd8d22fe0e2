/-
  Part 32 of the proof: what functions return, and plain facts (Mpread). Conditions: each theorem names its own.
-/
import Derived.Test.YthoojcdjjecogaaGreatDoorG24
import Derived.Test.YthoojcdjjecogaaGreatDoorG29
import Derived.Test.YthoojcdjjecogaaGreatDoorG31
import Derived.Defers
import Derived.Recover
set_option maxRecDepth 1000000
set_option maxHeartbeats 16000000
namespace Go.Proofs.YthoojcdjjecogaaGreatDoor
open Go Go.RowKit

theorem assert_err (c : Int) (w : World) : (Instr.typeAssert (.iface 30 (.int .i64 c)) 20 30 true).run Tryz.prog w = .ok (.tuple #[.int .i64 c, .bool true]) w := by kernel_rfl
theorem assert_nil (w : World) : (Instr.typeAssert .nilIface 20 30 true).run Tryz.prog w = .ok (.tuple #[.int .i64 0, .bool false]) w := by kernel_rfl
theorem preading_is (s : ByteArray) (w : World) : Calls Tryz.prog 241 #[.string s] w fun e w' => ∃ p r : Nat, e = .returned (.pointer (some ⟨r, 0, none⟩)) /\ RP w' p r s /\ w.heap.size <= p /\ w.heap.size <= r /\ Below w.heap.size w w' := by
 have hmf : ∀ (fn : Fn) (first cap : Array Value) (w : World), (Instr.makeFunc fn first cap).run Tryz.prog w = .ok (.func fn first cap) w := fun _ _ _ _ => rfl
 go_enter Tryz.func241, Tryz.ntmps241
 go_upto_region 2 with (refine wl_boxA rfl (.tmp 5) rfl rfl (fun W2 b2 hb => ?_); have hB := hb; clear hb)
 have b3 := Blk.new W2 240 #[.pointer (some ⟨w.heap.size, 0, none⟩)]
 have b4 := b2.old (.cells #[.pointer (some ⟨w.heap.size, 0, none⟩)] 240)
 have hB2 := hB.alloc hB.size (.cells #[.pointer (some ⟨w.heap.size, 0, none⟩)] 240)
 have l2 := b2.lt
 generalize W2.alloc (.cells #[.pointer (some ⟨w.heap.size, 0, none⟩)] 240) = W3 at *
 have v0 := b3.at (j := 0) rfl
 go_wp2_with (refine wl_storeC b4 rfl _ _ rfl rfl rfl rfl (by kernel_rfl) (Nat.le_of_ble_eq_true rfl) rfl (fun W5 b5 hg => ?_); replace b3 := b3.far hg (by omega); replace v0 := b3.at (j := 0) rfl; have hB3 := below_far hB2 hB2.size (Nat.le_refl _) hg; clear hg)
 go_ret
 exact ⟨W2.heap.size, w.heap.size, rfl, ⟨b3, b5, by omega⟩, by omega, Nat.le_refl _, hB3⟩
theorem pcatch_bad (m b : Nat) (x : Mo) (e0 c : Int) (hmb : m ≠ b) (w : World) (h1 : Blk w m 26 x.list.toArray) (h2 : Blk w b 30 #[.int .i64 e0]) :
  CallsD Tryz.prog 240 #[.pointer (some ⟨m, 0, none⟩), .pointer (some ⟨b, 0, none⟩)] (.panicking [{ v := .iface 30 (.int .i64 c), recovered := false }]) w fun e u' w' =>
   e = .returned (.tuple #[]) /\ u' = .panicking [{ v := .iface 30 (.int .i64 c), recovered := true }] /\ Blk w' m 26 Mo.nil.list.toArray /\ Blk w' b 30 #[.int .i64 c] /\ Ch [m, b] w w' := by
 refine callsD_of_wpS Tryz.func240 rfl fun c₀ cs hu => ?_
 rw [Tryz.ntmps240]
 change Code.wpS Tryz.prog _ _ { tmps := #[.pointer (some ⟨m, 0, none⟩), .pointer (some ⟨b, 0, none⟩), undef, undef, undef, undef, undef, undef, undef, undef, undef, undef], defers := [] } _ w
 apply wpS_seq
 apply wpS_region
 simp [wpOpsS, go_sem, recoverD, hu, Exit.thenS, assert_err]
 refine wpS_of_wp ?_
 go_wp2_with (first
  | (refine wl_storeA h1 rfl _ _ rfl rfl rfl (by kernel_rfl) rfl rfl rfl (fun W8 b8 hg => ?_); replace h2 := h2.far hg (Ne.symm hmb); have ch := Ch.ofGrown (S := [m, b]) hg (by simp); clear hg)
  | (refine wl_storeC h2 rfl _ _ rfl rfl rfl rfl (by kernel_rfl) (Nat.le_of_ble_eq_true rfl) rfl (fun W9 b9 hg => ?_); replace b8 := b8.far hg hmb; replace ch := ch.trans (Ch.ofGrown (S := [m, b]) hg (by simp)); clear hg))
 exact ⟨rfl, _, rfl, _, results_none rfl _ _ _, rfl, rfl, b8, b9, ch⟩
theorem pcatch_idle (m b : Nat) (w : World) :
  CallsD Tryz.prog 240 #[.pointer (some ⟨m, 0, none⟩), .pointer (some ⟨b, 0, none⟩)] .returning w fun e u' w' => e = .returned (.tuple #[]) /\ u' = .returning /\ w' = w := by
 refine callsD_of_wpS Tryz.func240 rfl fun c₀ cs hu => ?_
 rw [Tryz.ntmps240]
 change Code.wpS Tryz.prog _ _ { tmps := #[.pointer (some ⟨m, 0, none⟩), .pointer (some ⟨b, 0, none⟩), undef, undef, undef, undef, undef, undef, undef, undef, undef, undef], defers := [] } _ w
 apply wpS_seq
 apply wpS_region
 simp [wpOpsS, go_sem, recoverD, hu, Exit.thenS, assert_nil]
 refine wpS_of_wp ?_
 go_wp2
 cases c₀
 simp only at hu
 subst hu
 exact ⟨rfl, _, rfl, _, results_none rfl _ _ _, rfl, rfl, rfl⟩
structure PR (w0 w : World) (p r m b : Nat) (s : ByteArray) (x : Mo) (e : Int) : Prop where
 pd : PD w p r m s x
 er : Blk w b 30 #[.int .i64 e]
 mb : m ≠ b
 br : b ≠ r
 bp : b ≠ p
 low : w0.heap.size <= r /\ w0.heap.size <= m /\ w0.heap.size <= b
 bel : Below w0.heap.size w0 w
section
variable {w0 w w' : World} {p r m b : Nat} {s t : ByteArray} {x y : Mo} {e f : Int}
theorem below_ch {B : Nat} {S : List Nat} {a b c : World} (h : Below B a b) (hB : B <= a.heap.size) (k : Ch S b c) (hS : ∀ i ∈ S, B <= i) : Below B a c := h.trans (k.below (Nat.le_trans hB h.size) hS)
theorem PR.call (h : PR w0 w p r m b s x e) (hc : Ch [r] w w') (hr : RP w' p r t) : PR w0 w' p r m b t x e :=
 ⟨h.pd.call hc hr, hc.blk h.er (by simpa using h.br), h.mb, h.br, h.bp, h.low, below_ch h.bel (Nat.le_refl _) hc (by simpa using h.low.1)⟩
theorem PR.part (h : PR w0 w p r m b s x e) (hc : Ch [r, m] w w') (hd : PD w' p r m t y) : PR w0 w' p r m b t y e :=
 ⟨hd, hc.blk h.er (by have := h.br; have := Ne.symm h.mb; simp; omega), h.mb, h.br, h.bp, h.low, below_ch h.bel (Nat.le_refl _) hc (by have := h.low; simp; omega)⟩
theorem PR.store (h : PR w0 w p r m b s x e) (hb : Blk w' m 26 y.list.toArray) (hg : w.grownBy w' (some m)) : PR w0 w' p r m b s y e :=
 ⟨h.pd.store hb hg, h.er.far hg (Ne.symm h.mb), h.mb, h.br, h.bp, h.low, below_far h.bel h.bel.size h.low.2.1 hg⟩
theorem PR.err (h : PR w0 w p r m b s x e) (hb : Blk w' b 30 #[.int .i64 f]) (hg : w.grownBy w' (some b)) : PR w0 w' p r m b s x f :=
 ⟨h.pd.ch (Ch.ofGrown (S := [b]) hg (by simp)) (by simpa using Ne.symm h.bp) (by simpa using Ne.symm h.br) (by simpa using h.mb), hb, h.mb, h.br, h.bp, h.low, below_far h.bel h.bel.size h.low.2.2 hg⟩
theorem PR.pass (h : PR w0 w p r m b s x e) (hb : Below w.heap.size w w') : PR w0 w' p r m b s x e :=
 ⟨h.pd.pass hb, h.er.keep hb, h.mb, h.br, h.bp, h.low, below_step h.bel hb⟩
end
theorem res_cells {fn : Func} (hf : fn.results = #[.cell 4 26, .cell 5 30]) {tmps : Array Value} {W : World} {m b : Nat} {x : Mo} {c : Int} (h1 : Blk W m 26 x.list.toArray) (h2 : Blk W b 30 #[.int .i64 c])
  (h4 : tmps.getD 4 undef = .pointer (some ⟨m, 0, none⟩)) (h5 : tmps.getD 5 undef = .pointer (some ⟨b, 0, none⟩)) : (results fn tmps).run Tryz.prog W = .ok (.tuple #[x.val, .int .i64 c]) W := by
 have hp' : tmps[4]?.getD undef = .pointer (some ⟨m, 0, none⟩) := by simpa using h4
 have hq' : tmps[5]?.getD undef = .pointer (some ⟨b, 0, none⟩) := by simpa using h5
 obtain ⟨d, hu, hd⟩ := aggT_und (show aggT 26 x.list.toArray.size = true by kernel_rfl)
 have e := run_loadVar_row (P := Tryz.prog) W m 26 26 _ (0, 0) d h1 hu (by cases d <;> first | rfl | exact hd) (aggT_size (show aggT 26 x.list.toArray.size = true by kernel_rfl))
 have f : (loadVar 30 ⟨b, 0, none⟩).run Tryz.prog W = .ok (.int .i64 c) W := run_loadVar_cell (by kernel_rfl) (h2.at (j := 0) rfl)
 simp [results, hf, hp', hq', asAddr, e, f]
 rfl
theorem leaves_bad {fn : Func} (hf : fn.results = #[.cell 4 26, .cell 5 30]) {R : Ending -> World -> Prop} {tmps : Array Value} {m b : Nat} {x : Mo} {e c : Int} {w : World} (h1 : Blk w m 26 x.list.toArray) (h2 : Blk w b 30 #[.int .i64 e]) (hn : m ≠ b)
  (h4 : tmps.getD 4 undef = .pointer (some ⟨m, 0, none⟩)) (h5 : tmps.getD 5 undef = .pointer (some ⟨b, 0, none⟩)) (h : ∀ w', Ch [m, b] w w' -> R (.returned (.tuple #[Mo.nil.val, .int .i64 c])) w') :
  Leaves Tryz.prog fn tmps R [{ target := .fn (.func 240) #[.pointer (some ⟨m, 0, none⟩), .pointer (some ⟨b, 0, none⟩)], args := #[] }] (.panicking [{ v := .iface 30 (.int .i64 c), recovered := false }]) w := by
 refine leaves_cons (f := 240) (args := #[.pointer (some ⟨m, 0, none⟩), .pointer (some ⟨b, 0, none⟩)]) (by simp) (by simp [go_sem]) ?_
 refine (pcatch_bad m b x e c hn w h1 h2).mono ?_
 rintro e u' w' ⟨rfl, rfl, b1, b2, hc⟩
 exact ⟨_, res_cells hf b1 b2 h4 h5, h _ hc⟩
theorem leaves_good {fn : Func} (hf : fn.results = #[.cell 4 26, .cell 5 30]) {R : Ending -> World -> Prop} {tmps : Array Value} {m b : Nat} {x : Mo} {c : Int} {w : World} (h1 : Blk w m 26 x.list.toArray) (h2 : Blk w b 30 #[.int .i64 c])
  (h4 : tmps.getD 4 undef = .pointer (some ⟨m, 0, none⟩)) (h5 : tmps.getD 5 undef = .pointer (some ⟨b, 0, none⟩)) (h : R (.returned (.tuple #[x.val, .int .i64 c])) w) :
  Leaves Tryz.prog fn tmps R [{ target := .fn (.func 240) #[.pointer (some ⟨m, 0, none⟩), .pointer (some ⟨b, 0, none⟩)], args := #[] }] .returning w := by
 refine leaves_cons (f := 240) (args := #[.pointer (some ⟨m, 0, none⟩), .pointer (some ⟨b, 0, none⟩)]) (by simp) (by simp [go_sem]) ?_
 refine (pcatch_idle m b w).mono ?_
 rintro e u' w' ⟨rfl, rfl, rfl⟩
 exact ⟨_, res_cells hf h1 h2 h4 h5, h⟩
theorem pread1 (l : ByteArray) (hs : l.size <= 300) (w : World) (M : Int) (hV : Vars M w) : Calls Tryz.prog 239 #[.int .i64 1, .string l] w fun e w' => e = .returned (.tuple #[(Mo.readM 1 (bts l)).1.val, .int .i64 (Mo.readM 1 (bts l)).2]) /\ Below w.heap.size w w' := by
 have hmf : ∀ (fn : Fn) (first cap : Array Value) (w : World), (Instr.makeFunc fn first cap).run Tryz.prog w = .ok (.func fn first cap) w := fun _ _ _ _ => rfl
 go_enter_defers Tryz.func239, Tryz.ntmps239
 go_upto_region 4 with (first
  | (go_at_call 100; refine (pdated1 _).mono ?_; rintro e w1 ⟨rfl, rfl⟩)
  | (go_at_call 102; refine (ptimed1 _).mono ?_; rintro e w1 ⟨rfl, rfl⟩)
  | (refine wl_allocA rfl zero_mo rfl (fun W2 b2 hb => ?_); have hB := hb; clear hb))
 have l2 := b2.lt
 have b3 := Blk.new W2 30 #[.int .i64 0]
 replace b2 := b2.old (.cells #[.int .i64 0] 30)
 replace hB := hB.alloc hB.size (.cells #[.int .i64 0] 30)
 have l3 := b3.lt
 have hle := hB.size
 generalize W2.alloc (.cells #[.int .i64 0] 30) = W3 at *
 obtain ⟨mb, hmb⟩ : ∃ mb, mb = w.heap.size := ⟨_, rfl⟩
 obtain ⟨eb, heb⟩ : ∃ eb, eb = W2.heap.size := ⟨_, rfl⟩
 rw [<- hmb] at b2 l2 ⊢
 rw [<- heb] at b3 l3 l2 ⊢
 have lm : w.heap.size <= mb := by omega
 clear hmb heb
 go_upto_region 5 with (go_at_call 241; refine (preading_is l _).mono ?_; rintro e W4 ⟨p, r, rfl, hr, hp1, hr1, hb⟩; have st : PR w W4 p r mb eb l Mo.nil 0 := ⟨⟨hr, b2.keep hb, by omega, by omega⟩, b3.keep hb, by omega, by omega, by omega, ⟨by omega, by omega, by omega⟩, below_step hB hb⟩; clear hr hp1 hr1 hb b2 b3 hB hle)
 have hz_l : l.size <= 390 := by omega
 go_wp2_with (first
  | (refine wl_storeC st.pd.mo rfl _ _ rfl rfl rfl rfl (by kernel_rfl) (Nat.le_of_ble_eq_true rfl) rfl (fun W5 b5 hg => ?_); replace st := st.store (y := ⟨1, 0, 0, 0, 0, 0, false, ⟨#[]⟩, 0, false, 0⟩) b5 hg; clear hg b5)
  | (first
   | (go_at_call 100; refine (pdated1 _).mono ?_; rintro e w9 ⟨rfl, rfl⟩)
   | (go_at_call 102; refine (ptimed1 _).mono ?_; rintro e w9 ⟨rfl, rfl⟩)))
 refine (pd_date _ _ _ _ _ hz_l _ st.pd).mono ?_
 rintro e v1 ⟨⟨u1, y, mm, d, rfl, hh1, hz_u1, hp1⟩ | ⟨rfl, hh1, x1, bm⟩, hc1⟩
 rotate_left
 ·have EN := Lib.hid hh1
  have hR : Hid (Mo.readM 1 (bts l) = (Mo.nil, 6)) := Lib.hid (by unfold Mo.readM; rw [if_pos (by decide)]; have e : Mo.partsP 1 (bts l) = none := (by unfold Mo.partsP; simp [EN.out]); rw [e])
  have be : Blk v1 eb 30 #[.int .i64 0] := hc1.blk st.er (by have := st.br; have := Ne.symm st.mb; simp; omega)
  have bl := below_ch st.bel (Nat.le_refl _) hc1 (by have := st.low; simp; omega)
  have lo := st.low
  clear hh1 hc1 EN
  unfold bad6
  go_wp2
  refine leaves_bad rfl bm be st.mb rfl rfl (fun w' hc => ?_)
  exact ⟨by rw [hR.out], below_ch bl (Nat.le_refl _) hc (by simp; omega)⟩
 replace st := st.part hc1 hp1
 have E1 := Lib.hid hh1
 clear hh1 hc1 hp1
 go_wp2_with (first
   | (go_at_call 100; refine (pdated1 _).mono ?_; rintro e w9 ⟨rfl, rfl⟩)
   | (go_at_call 102; refine (ptimed1 _).mono ?_; rintro e w9 ⟨rfl, rfl⟩))
 refine (pd_zone _ _ _ _ _ hz_u1 _ rfl st.pd).mono ?_
 rintro e v4 ⟨⟨u4, zb, zo, rfl, hh4, hp4⟩ | ⟨rfl, hh4, x1, bm⟩, hc4⟩
 rotate_left
 ·have EN := Lib.hid hh4
  have hR : Hid (Mo.readM 1 (bts l) = (Mo.nil, 6)) := Lib.hid (by unfold Mo.readM; rw [if_pos (by decide)]; have e : Mo.partsP 1 (bts l) = none := (by unfold Mo.partsP; simp [E1.out, EN.out]); rw [e])
  have be : Blk v4 eb 30 #[.int .i64 0] := hc4.blk st.er (by have := st.br; have := Ne.symm st.mb; simp; omega)
  have bl := below_ch st.bel (Nat.le_refl _) hc4 (by have := st.low; simp; omega)
  have lo := st.low
  clear hh4 hc4 EN
  unfold bad6
  go_wp2
  refine leaves_bad rfl bm be st.mb rfl rfl (fun w' hc => ?_)
  exact ⟨by rw [hR.out], below_ch bl (Nat.le_refl _) hc (by simp; omega)⟩
 replace st := st.part hc4 hp4
 have hR : Hid (Mo.partsP 1 (bts l) = some (⟨1, y, mm, d, 0, 0, false, ⟨#[]⟩, 0, zb, zo⟩, [])) := Lib.hid (by unfold Mo.partsP; simp [E1.out, hh4])
 clear hh4 hc4 hp4 E1
 have HS : Hid ((⟨1, y, mm, d, 0, 0, false, ⟨#[]⟩, 0, zb, zo⟩ : Mo).s.size <= 1000000) := Lib.hid (by show (0 : Nat) <= 1000000; exact Nat.zero_le _)
 cases hok : Mo.okB ⟨1, y, mm, d, 0, 0, false, ⟨#[]⟩, 0, zb, zo⟩ with
 | true =>
  have hE : Hid (Mo.readM 1 (bts l) = (⟨1, y, mm, d, 0, 0, false, ⟨#[]⟩, 0, zb, zo⟩, 0)) := Lib.hid (by unfold Mo.readM; rw [if_pos (by decide), hR.out]; show Mo.doneM 1 _ = _; unfold Mo.doneM; rw [if_pos rfl, if_pos hok])
  clear hR
  go_wp2_with (first
   | (first
    | (go_at_call 100; refine (pdated1 _).mono ?_; rintro e w9 ⟨rfl, rfl⟩)
    | (go_at_call 102; refine (ptimed1 _).mono ?_; rintro e w9 ⟨rfl, rfl⟩))
   | (refine wl_loadA st.pd.mo rfl (by kernel_rfl) _ rfl rfl ?_)
   | (go_at_call 72; refine (pvalid_is ⟨1, y, mm, d, 0, 0, false, ⟨#[]⟩, 0, zb, zo⟩ HS.out _ M (hV.next st.bel)).mono ?_; rw [hok]; rintro e w5 ⟨rfl, hb⟩; replace st := st.pass hb; clear hb)
   | (refine wl_storeA st.pd.mo rfl _ _ rfl rfl rfl (by kernel_rfl) rfl rfl rfl (fun W8 b8 hg => ?_); replace st := st.store (y := ⟨1, y, mm, d, 0, 0, false, ⟨#[]⟩, 0, zb, zo⟩) b8 hg; clear hg b8)
   | (refine wl_storeC (v := .int .i64 0) st.er rfl _ _ rfl rfl rfl rfl (by kernel_rfl) (Nat.le_of_ble_eq_true rfl) rfl (fun W9 b9 hg => ?_); replace st := st.err (f := 0) b9 hg; clear hg b9))
  exact leaves_good rfl st.pd.mo st.er rfl rfl ⟨by rw [hE.out], st.bel⟩
 | false =>
  have hE : Hid (Mo.readM 1 (bts l) = (Mo.nil, 6)) := Lib.hid (by unfold Mo.readM; rw [if_pos (by decide), hR.out]; show Mo.doneM 1 _ = _; unfold Mo.doneM; rw [if_pos rfl, if_neg (by rw [hok]; decide)])
  clear hR
  go_wp2_with (first
   | (first
    | (go_at_call 100; refine (pdated1 _).mono ?_; rintro e w9 ⟨rfl, rfl⟩)
    | (go_at_call 102; refine (ptimed1 _).mono ?_; rintro e w9 ⟨rfl, rfl⟩))
   | (refine wl_loadA st.pd.mo rfl (by kernel_rfl) _ rfl rfl ?_)
   | (go_at_call 72; refine (pvalid_is ⟨1, y, mm, d, 0, 0, false, ⟨#[]⟩, 0, zb, zo⟩ HS.out _ M (hV.next st.bel)).mono ?_; rw [hok]; rintro e w5 ⟨rfl, hb⟩; replace st := st.pass hb; clear hb)
   | (refine wl_storeA st.pd.mo rfl _ _ rfl rfl rfl (by kernel_rfl) rfl rfl rfl (fun W8 b8 hg => ?_); replace st := st.store (y := ⟨1, y, mm, d, 0, 0, false, ⟨#[]⟩, 0, zb, zo⟩) b8 hg; clear hg b8)
   | (refine wl_storeC (v := .int .i64 0) st.er rfl _ _ rfl rfl rfl rfl (by kernel_rfl) (Nat.le_of_ble_eq_true rfl) rfl (fun W9 b9 hg => ?_); replace st := st.err (f := 0) b9 hg; clear hg b9))
  exact leaves_bad rfl st.pd.mo st.er st.mb rfl rfl (fun w2 hc => ⟨by rw [hE.out], below_ch st.bel (Nat.le_refl _) hc (by have := st.low; simp; omega)⟩)
theorem pread2 (l : ByteArray) (hs : l.size <= 300) (w : World) (M : Int) (hV : Vars M w) : Calls Tryz.prog 239 #[.int .i64 2, .string l] w fun e w' => e = .returned (.tuple #[(Mo.readM 2 (bts l)).1.val, .int .i64 (Mo.readM 2 (bts l)).2]) /\ Below w.heap.size w w' := by
 have hmf : ∀ (fn : Fn) (first cap : Array Value) (w : World), (Instr.makeFunc fn first cap).run Tryz.prog w = .ok (.func fn first cap) w := fun _ _ _ _ => rfl
 go_enter_defers Tryz.func239, Tryz.ntmps239
 go_upto_region 4 with (first
  | (go_at_call 100; refine (pdated2 _).mono ?_; rintro e w1 ⟨rfl, rfl⟩)
  | (go_at_call 102; refine (ptimed2 _).mono ?_; rintro e w1 ⟨rfl, rfl⟩)
  | (refine wl_allocA rfl zero_mo rfl (fun W2 b2 hb => ?_); have hB := hb; clear hb))
 have l2 := b2.lt
 have b3 := Blk.new W2 30 #[.int .i64 0]
 replace b2 := b2.old (.cells #[.int .i64 0] 30)
 replace hB := hB.alloc hB.size (.cells #[.int .i64 0] 30)
 have l3 := b3.lt
 have hle := hB.size
 generalize W2.alloc (.cells #[.int .i64 0] 30) = W3 at *
 obtain ⟨mb, hmb⟩ : ∃ mb, mb = w.heap.size := ⟨_, rfl⟩
 obtain ⟨eb, heb⟩ : ∃ eb, eb = W2.heap.size := ⟨_, rfl⟩
 rw [<- hmb] at b2 l2 ⊢
 rw [<- heb] at b3 l3 l2 ⊢
 have lm : w.heap.size <= mb := by omega
 clear hmb heb
 go_upto_region 5 with (go_at_call 241; refine (preading_is l _).mono ?_; rintro e W4 ⟨p, r, rfl, hr, hp1, hr1, hb⟩; have st : PR w W4 p r mb eb l Mo.nil 0 := ⟨⟨hr, b2.keep hb, by omega, by omega⟩, b3.keep hb, by omega, by omega, by omega, ⟨by omega, by omega, by omega⟩, below_step hB hb⟩; clear hr hp1 hr1 hb b2 b3 hB hle)
 have hz_l : l.size <= 390 := by omega
 go_wp2_with (first
  | (refine wl_storeC st.pd.mo rfl _ _ rfl rfl rfl rfl (by kernel_rfl) (Nat.le_of_ble_eq_true rfl) rfl (fun W5 b5 hg => ?_); replace st := st.store (y := ⟨2, 0, 0, 0, 0, 0, false, ⟨#[]⟩, 0, false, 0⟩) b5 hg; clear hg b5)
  | (first
   | (go_at_call 100; refine (pdated2 _).mono ?_; rintro e w9 ⟨rfl, rfl⟩)
   | (go_at_call 102; refine (ptimed2 _).mono ?_; rintro e w9 ⟨rfl, rfl⟩)))
 go_wp2_with (first
   | (go_at_call 100; refine (pdated2 _).mono ?_; rintro e w9 ⟨rfl, rfl⟩)
   | (go_at_call 102; refine (ptimed2 _).mono ?_; rintro e w9 ⟨rfl, rfl⟩))
 refine (pd_time _ _ _ _ _ hz_l _ st.pd).mono ?_
 rintro e v3 ⟨⟨u3, sec, h, i, rfl, hh3, hz_u3, hsec, hp3⟩ | ⟨rfl, hh3, x1, bm⟩, hc3⟩
 rotate_left
 ·have EN := Lib.hid hh3
  have hR : Hid (Mo.readM 2 (bts l) = (Mo.nil, 6)) := Lib.hid (by unfold Mo.readM; rw [if_pos (by decide)]; have e : Mo.partsP 2 (bts l) = none := (by unfold Mo.partsP; simp [EN.out]); rw [e])
  have be : Blk v3 eb 30 #[.int .i64 0] := hc3.blk st.er (by have := st.br; have := Ne.symm st.mb; simp; omega)
  have bl := below_ch st.bel (Nat.le_refl _) hc3 (by have := st.low; simp; omega)
  have lo := st.low
  clear hh3 hc3 EN
  unfold bad6
  go_wp2
  refine leaves_bad rfl bm be st.mb rfl rfl (fun w' hc => ?_)
  exact ⟨by rw [hR.out], below_ch bl (Nat.le_refl _) hc (by simp; omega)⟩
 replace st := st.part hc3 hp3
 have E3 := Lib.hid hh3
 clear hh3 hc3 hp3
 go_wp2_with (first
   | (go_at_call 100; refine (pdated2 _).mono ?_; rintro e w9 ⟨rfl, rfl⟩)
   | (go_at_call 102; refine (ptimed2 _).mono ?_; rintro e w9 ⟨rfl, rfl⟩))
 refine (pd_zone _ _ _ _ _ hz_u3 _ rfl st.pd).mono ?_
 rintro e v4 ⟨⟨u4, zb, zo, rfl, hh4, hp4⟩ | ⟨rfl, hh4, x1, bm⟩, hc4⟩
 rotate_left
 ·have EN := Lib.hid hh4
  have hR : Hid (Mo.readM 2 (bts l) = (Mo.nil, 6)) := Lib.hid (by unfold Mo.readM; rw [if_pos (by decide)]; have e : Mo.partsP 2 (bts l) = none := (by unfold Mo.partsP; simp [E3.out, EN.out]); rw [e])
  have be : Blk v4 eb 30 #[.int .i64 0] := hc4.blk st.er (by have := st.br; have := Ne.symm st.mb; simp; omega)
  have bl := below_ch st.bel (Nat.le_refl _) hc4 (by have := st.low; simp; omega)
  have lo := st.low
  clear hh4 hc4 EN
  unfold bad6
  go_wp2
  refine leaves_bad rfl bm be st.mb rfl rfl (fun w' hc => ?_)
  exact ⟨by rw [hR.out], below_ch bl (Nat.le_refl _) hc (by simp; omega)⟩
 replace st := st.part hc4 hp4
 have hR : Hid (Mo.partsP 2 (bts l) = some (⟨2, 0, 0, 0, h, i, false, ⟨#[]⟩, 0, zb, zo⟩, bts sec)) := Lib.hid (by unfold Mo.partsP; simp [E3.out, hh4])
 clear hh4 hc4 hp4 E3
 obtain ⟨rr, hrr⟩ : ∃ rr, readR (bts sec) = rr := ⟨_, rfl⟩
 have CR := Lib.hid (pread_is sec hsec rr hrr)
 have HS : Hid ((⟨2, 0, 0, 0, h, i, rr.n, rr.s, rr.S, zb, zo⟩ : Mo).s.size <= 1000000) := Lib.hid (readR_small hrr)
 have HRR := Lib.hid hrr
 clear hrr hsec
 by_cases hk : rr.k = 0
 ·have g1 : (rr.k != 0) = false := by rw [hk]; rfl
  cases hok : Mo.okB ⟨2, 0, 0, 0, h, i, rr.n, rr.s, rr.S, zb, zo⟩ with
  | true =>
   have hE : Hid (Mo.readM 2 (bts l) = (⟨2, 0, 0, 0, h, i, rr.n, rr.s, rr.S, zb, zo⟩, 0)) := Lib.hid (by unfold Mo.readM; rw [if_pos (by decide), hR.out]; show Mo.doneM 2 _ = _; unfold Mo.doneM; rw [if_neg (by decide)]; simp only [HRR.out]; rw [if_neg (by rw [hk]; decide)]; show (if Mo.okB ⟨2, 0, 0, 0, h, i, rr.n, rr.s, rr.S, zb, zo⟩ = true then _ else _) = _; rw [if_pos hok]; rfl)
   clear hR HRR hk
   go_wp2_with (first
    | (first
     | (go_at_call 100; refine (pdated2 _).mono ?_; rintro e w9 ⟨rfl, rfl⟩)
     | (go_at_call 102; refine (ptimed2 _).mono ?_; rintro e w9 ⟨rfl, rfl⟩))
    | (go_at_call 246; refine (CR.out _ ((hV.next st.bel).good)).mono ?_; rintro e w5 ⟨rfl, hb⟩; replace st := st.pass hb; clear hb)
    | (refine wl_storeA st.pd.mo rfl _ _ rfl rfl rfl (by kernel_rfl) rfl rfl rfl (fun W8 b8 hg => ?_); replace st := st.store (y := ⟨2, 0, 0, 0, h, i, rr.n, rr.s, rr.S, zb, zo⟩) b8 hg; clear hg b8)
    | (refine wl_storeM st.pd.mo rfl _ _ rfl rfl rfl (by kernel_rfl) (Nat.le_of_ble_eq_true rfl) rfl rfl (fun W9 b9 hg => ?_); replace st := st.store (y := ⟨2, 0, 0, 0, h, i, rr.n, rr.s, rr.S, zb, zo⟩) b9 hg; clear hg b9)
    | (refine wl_loadC st.er rfl (by kernel_rfl) _ rfl (j := 0) (v := .int .i64 rr.k) rfl rfl ?_)
    | (refine wl_storeC (v := .int .i64 rr.k) st.er rfl _ _ rfl rfl rfl rfl (by kernel_rfl) (Nat.le_of_ble_eq_true rfl) rfl (fun W9 b9 hg => ?_); replace st := st.err (f := rr.k) b9 hg; clear hg b9)
    | (refine wl_loadA st.pd.mo rfl (by kernel_rfl) _ rfl rfl ?_)
    | (go_at_call 72; refine (pvalid_is ⟨2, 0, 0, 0, h, i, rr.n, rr.s, rr.S, zb, zo⟩ HS.out _ M (hV.next st.bel)).mono ?_; rw [hok]; rintro e w5 ⟨rfl, hb⟩; replace st := st.pass hb; clear hb)
    | (refine wl_storeA st.pd.mo rfl _ _ rfl rfl rfl (by kernel_rfl) rfl rfl rfl (fun W8 b8 hg => ?_); replace st := st.store (y := ⟨2, 0, 0, 0, h, i, rr.n, rr.s, rr.S, zb, zo⟩) b8 hg; clear hg b8)
    | (refine wl_storeC (v := .int .i64 0) st.er rfl _ _ rfl rfl rfl rfl (by kernel_rfl) (Nat.le_of_ble_eq_true rfl) rfl (fun W9 b9 hg => ?_); replace st := st.err (f := 0) b9 hg; clear hg b9))
   exact leaves_good rfl st.pd.mo st.er rfl rfl ⟨by rw [hE.out], st.bel⟩
  | false =>
   have hE : Hid (Mo.readM 2 (bts l) = (Mo.nil, 6)) := Lib.hid (by unfold Mo.readM; rw [if_pos (by decide), hR.out]; show Mo.doneM 2 _ = _; unfold Mo.doneM; rw [if_neg (by decide)]; simp only [HRR.out]; rw [if_neg (by rw [hk]; decide)]; show (if Mo.okB ⟨2, 0, 0, 0, h, i, rr.n, rr.s, rr.S, zb, zo⟩ = true then _ else _) = _; rw [if_neg (by rw [hok]; decide)])
   clear hR HRR hk
   go_wp2_with (first
    | (first
     | (go_at_call 100; refine (pdated2 _).mono ?_; rintro e w9 ⟨rfl, rfl⟩)
     | (go_at_call 102; refine (ptimed2 _).mono ?_; rintro e w9 ⟨rfl, rfl⟩))
    | (go_at_call 246; refine (CR.out _ ((hV.next st.bel).good)).mono ?_; rintro e w5 ⟨rfl, hb⟩; replace st := st.pass hb; clear hb)
    | (refine wl_storeA st.pd.mo rfl _ _ rfl rfl rfl (by kernel_rfl) rfl rfl rfl (fun W8 b8 hg => ?_); replace st := st.store (y := ⟨2, 0, 0, 0, h, i, rr.n, rr.s, rr.S, zb, zo⟩) b8 hg; clear hg b8)
    | (refine wl_storeM st.pd.mo rfl _ _ rfl rfl rfl (by kernel_rfl) (Nat.le_of_ble_eq_true rfl) rfl rfl (fun W9 b9 hg => ?_); replace st := st.store (y := ⟨2, 0, 0, 0, h, i, rr.n, rr.s, rr.S, zb, zo⟩) b9 hg; clear hg b9)
    | (refine wl_loadC st.er rfl (by kernel_rfl) _ rfl (j := 0) (v := .int .i64 rr.k) rfl rfl ?_)
    | (refine wl_storeC (v := .int .i64 rr.k) st.er rfl _ _ rfl rfl rfl rfl (by kernel_rfl) (Nat.le_of_ble_eq_true rfl) rfl (fun W9 b9 hg => ?_); replace st := st.err (f := rr.k) b9 hg; clear hg b9)
    | (refine wl_loadA st.pd.mo rfl (by kernel_rfl) _ rfl rfl ?_)
    | (go_at_call 72; refine (pvalid_is ⟨2, 0, 0, 0, h, i, rr.n, rr.s, rr.S, zb, zo⟩ HS.out _ M (hV.next st.bel)).mono ?_; rw [hok]; rintro e w5 ⟨rfl, hb⟩; replace st := st.pass hb; clear hb)
    | (refine wl_storeA st.pd.mo rfl _ _ rfl rfl rfl (by kernel_rfl) rfl rfl rfl (fun W8 b8 hg => ?_); replace st := st.store (y := ⟨2, 0, 0, 0, h, i, rr.n, rr.s, rr.S, zb, zo⟩) b8 hg; clear hg b8)
    | (refine wl_storeC (v := .int .i64 0) st.er rfl _ _ rfl rfl rfl rfl (by kernel_rfl) (Nat.le_of_ble_eq_true rfl) rfl (fun W9 b9 hg => ?_); replace st := st.err (f := 0) b9 hg; clear hg b9))
   exact leaves_bad rfl st.pd.mo st.er st.mb rfl rfl (fun w2 hc => ⟨by rw [hE.out], below_ch st.bel (Nat.le_refl _) hc (by have := st.low; simp; omega)⟩)
 ·have g1 : (rr.k != 0) = true := bne_iff_ne.2 hk
  have hE : Hid (Mo.readM 2 (bts l) = (Mo.nil, rr.k)) := Lib.hid (by unfold Mo.readM; rw [if_pos (by decide), hR.out]; show Mo.doneM 2 _ = _; unfold Mo.doneM; rw [if_neg (by decide)]; simp only [HRR.out]; rw [if_pos hk])
  clear hR HRR hk HS
  go_wp2_with (first
   | (first
    | (go_at_call 100; refine (pdated2 _).mono ?_; rintro e w9 ⟨rfl, rfl⟩)
    | (go_at_call 102; refine (ptimed2 _).mono ?_; rintro e w9 ⟨rfl, rfl⟩))
   | (go_at_call 246; refine (CR.out _ ((hV.next st.bel).good)).mono ?_; rintro e w5 ⟨rfl, hb⟩; replace st := st.pass hb; clear hb)
   | (refine wl_storeA st.pd.mo rfl _ _ rfl rfl rfl (by kernel_rfl) rfl rfl rfl (fun W8 b8 hg => ?_); replace st := st.store (y := ⟨2, 0, 0, 0, h, i, rr.n, rr.s, rr.S, zb, zo⟩) b8 hg; clear hg b8)
   | (refine wl_storeM st.pd.mo rfl _ _ rfl rfl rfl (by kernel_rfl) (Nat.le_of_ble_eq_true rfl) rfl rfl (fun W9 b9 hg => ?_); replace st := st.store (y := ⟨2, 0, 0, 0, h, i, rr.n, rr.s, rr.S, zb, zo⟩) b9 hg; clear hg b9)
   | (refine wl_loadC st.er rfl (by kernel_rfl) _ rfl (j := 0) (v := .int .i64 rr.k) rfl rfl ?_)
   | (refine wl_storeC (v := .int .i64 rr.k) st.er rfl _ _ rfl rfl rfl rfl (by kernel_rfl) (Nat.le_of_ble_eq_true rfl) rfl (fun W9 b9 hg => ?_); replace st := st.err (f := rr.k) b9 hg; clear hg b9)
   | (refine wl_loadA st.pd.mo rfl (by kernel_rfl) _ rfl rfl ?_)
   | (go_at_call 72; refine (pvalid_is ⟨2, 0, 0, 0, h, i, rr.n, rr.s, rr.S, zb, zo⟩ HS.out _ M (hV.next st.bel)).mono ?_; rw [hok]; rintro e w5 ⟨rfl, hb⟩; replace st := st.pass hb; clear hb)
   | (refine wl_storeA st.pd.mo rfl _ _ rfl rfl rfl (by kernel_rfl) rfl rfl rfl (fun W8 b8 hg => ?_); replace st := st.store (y := ⟨2, 0, 0, 0, h, i, rr.n, rr.s, rr.S, zb, zo⟩) b8 hg; clear hg b8)
   | (refine wl_storeC (v := .int .i64 0) st.er rfl _ _ rfl rfl rfl rfl (by kernel_rfl) (Nat.le_of_ble_eq_true rfl) rfl (fun W9 b9 hg => ?_); replace st := st.err (f := 0) b9 hg; clear hg b9))
  exact leaves_bad rfl st.pd.mo st.er st.mb rfl rfl (fun w2 hc => ⟨by rw [hE.out], below_ch st.bel (Nat.le_refl _) hc (by have := st.low; simp; omega)⟩)
theorem pread3 (l : ByteArray) (hs : l.size <= 300) (w : World) (M : Int) (hV : Vars M w) : Calls Tryz.prog 239 #[.int .i64 3, .string l] w fun e w' => e = .returned (.tuple #[(Mo.readM 3 (bts l)).1.val, .int .i64 (Mo.readM 3 (bts l)).2]) /\ Below w.heap.size w w' := by
 have hmf : ∀ (fn : Fn) (first cap : Array Value) (w : World), (Instr.makeFunc fn first cap).run Tryz.prog w = .ok (.func fn first cap) w := fun _ _ _ _ => rfl
 go_enter_defers Tryz.func239, Tryz.ntmps239
 go_upto_region 4 with (first
  | (go_at_call 100; refine (pdated3 _).mono ?_; rintro e w1 ⟨rfl, rfl⟩)
  | (go_at_call 102; refine (ptimed3 _).mono ?_; rintro e w1 ⟨rfl, rfl⟩)
  | (refine wl_allocA rfl zero_mo rfl (fun W2 b2 hb => ?_); have hB := hb; clear hb))
 have l2 := b2.lt
 have b3 := Blk.new W2 30 #[.int .i64 0]
 replace b2 := b2.old (.cells #[.int .i64 0] 30)
 replace hB := hB.alloc hB.size (.cells #[.int .i64 0] 30)
 have l3 := b3.lt
 have hle := hB.size
 generalize W2.alloc (.cells #[.int .i64 0] 30) = W3 at *
 obtain ⟨mb, hmb⟩ : ∃ mb, mb = w.heap.size := ⟨_, rfl⟩
 obtain ⟨eb, heb⟩ : ∃ eb, eb = W2.heap.size := ⟨_, rfl⟩
 rw [<- hmb] at b2 l2 ⊢
 rw [<- heb] at b3 l3 l2 ⊢
 have lm : w.heap.size <= mb := by omega
 clear hmb heb
 go_upto_region 5 with (go_at_call 241; refine (preading_is l _).mono ?_; rintro e W4 ⟨p, r, rfl, hr, hp1, hr1, hb⟩; have st : PR w W4 p r mb eb l Mo.nil 0 := ⟨⟨hr, b2.keep hb, by omega, by omega⟩, b3.keep hb, by omega, by omega, by omega, ⟨by omega, by omega, by omega⟩, below_step hB hb⟩; clear hr hp1 hr1 hb b2 b3 hB hle)
 have hz_l : l.size <= 390 := by omega
 go_wp2_with (first
  | (refine wl_storeC st.pd.mo rfl _ _ rfl rfl rfl rfl (by kernel_rfl) (Nat.le_of_ble_eq_true rfl) rfl (fun W5 b5 hg => ?_); replace st := st.store (y := ⟨3, 0, 0, 0, 0, 0, false, ⟨#[]⟩, 0, false, 0⟩) b5 hg; clear hg b5)
  | (first
   | (go_at_call 100; refine (pdated3 _).mono ?_; rintro e w9 ⟨rfl, rfl⟩)
   | (go_at_call 102; refine (ptimed3 _).mono ?_; rintro e w9 ⟨rfl, rfl⟩)))
 refine (pd_date _ _ _ _ _ hz_l _ st.pd).mono ?_
 rintro e v1 ⟨⟨u1, y, mm, d, rfl, hh1, hz_u1, hp1⟩ | ⟨rfl, hh1, x1, bm⟩, hc1⟩
 rotate_left
 ·have EN := Lib.hid hh1
  have hR : Hid (Mo.readM 3 (bts l) = (Mo.nil, 6)) := Lib.hid (by unfold Mo.readM; rw [if_pos (by decide)]; have e : Mo.partsP 3 (bts l) = none := (by unfold Mo.partsP; simp [EN.out]); rw [e])
  have be : Blk v1 eb 30 #[.int .i64 0] := hc1.blk st.er (by have := st.br; have := Ne.symm st.mb; simp; omega)
  have bl := below_ch st.bel (Nat.le_refl _) hc1 (by have := st.low; simp; omega)
  have lo := st.low
  clear hh1 hc1 EN
  unfold bad6
  go_wp2
  refine leaves_bad rfl bm be st.mb rfl rfl (fun w' hc => ?_)
  exact ⟨by rw [hR.out], below_ch bl (Nat.le_refl _) hc (by simp; omega)⟩
 replace st := st.part hc1 hp1
 have E1 := Lib.hid hh1
 clear hh1 hc1 hp1
 go_wp2_with (first
   | (go_at_call 100; refine (pdated3 _).mono ?_; rintro e w9 ⟨rfl, rfl⟩)
   | (go_at_call 102; refine (ptimed3 _).mono ?_; rintro e w9 ⟨rfl, rfl⟩))
 refine (pwant_n 84 84 rfl _ _ _ _ st.pd.rd).mono ?_
 rintro e v2 ⟨⟨u2, rfl, hh2, hz2, hr2⟩ | ⟨rfl, hh2⟩, hc2⟩
 rotate_left
 ·have EN := Lib.hid hh2
  have hR : Hid (Mo.readM 3 (bts l) = (Mo.nil, 6)) := Lib.hid (by unfold Mo.readM; rw [if_pos (by decide)]; have e : Mo.partsP 3 (bts l) = none := (by unfold Mo.partsP; simp [E1.out, EN.out]); rw [e])
  have bm := hc2.blk st.pd.mo (by have := st.pd.mr; simp; omega)
  have be : Blk v2 eb 30 #[.int .i64 0] := hc2.blk st.er (by have := st.br; have := Ne.symm st.mb; simp; omega)
  have bl := below_ch st.bel (Nat.le_refl _) hc2 (by have := st.low; simp; omega)
  have lo := st.low
  clear hh2 hc2 EN
  unfold bad6
  go_wp2
  refine leaves_bad rfl bm be st.mb rfl rfl (fun w' hc => ?_)
  exact ⟨by rw [hR.out], below_ch bl (Nat.le_refl _) hc (by simp; omega)⟩
 have hz_u2 : u2.size <= 390 := Nat.le_trans hz2 hz_u1
 replace st := st.call hc2 hr2
 have E2 := Lib.hid hh2
 clear hh2 hc2 hr2 hz2
 go_wp2_with (first
   | (go_at_call 100; refine (pdated3 _).mono ?_; rintro e w9 ⟨rfl, rfl⟩)
   | (go_at_call 102; refine (ptimed3 _).mono ?_; rintro e w9 ⟨rfl, rfl⟩))
 refine (pd_time _ _ _ _ _ hz_u2 _ st.pd).mono ?_
 rintro e v3 ⟨⟨u3, sec, h, i, rfl, hh3, hz_u3, hsec, hp3⟩ | ⟨rfl, hh3, x1, bm⟩, hc3⟩
 rotate_left
 ·have EN := Lib.hid hh3
  have hR : Hid (Mo.readM 3 (bts l) = (Mo.nil, 6)) := Lib.hid (by unfold Mo.readM; rw [if_pos (by decide)]; have e : Mo.partsP 3 (bts l) = none := (by unfold Mo.partsP; simp [E1.out, E2.out, EN.out]); rw [e])
  have be : Blk v3 eb 30 #[.int .i64 0] := hc3.blk st.er (by have := st.br; have := Ne.symm st.mb; simp; omega)
  have bl := below_ch st.bel (Nat.le_refl _) hc3 (by have := st.low; simp; omega)
  have lo := st.low
  clear hh3 hc3 EN
  unfold bad6
  go_wp2
  refine leaves_bad rfl bm be st.mb rfl rfl (fun w' hc => ?_)
  exact ⟨by rw [hR.out], below_ch bl (Nat.le_refl _) hc (by simp; omega)⟩
 replace st := st.part hc3 hp3
 have E3 := Lib.hid hh3
 clear hh3 hc3 hp3
 go_wp2_with (first
   | (go_at_call 100; refine (pdated3 _).mono ?_; rintro e w9 ⟨rfl, rfl⟩)
   | (go_at_call 102; refine (ptimed3 _).mono ?_; rintro e w9 ⟨rfl, rfl⟩))
 refine (pd_zone _ _ _ _ _ hz_u3 _ rfl st.pd).mono ?_
 rintro e v4 ⟨⟨u4, zb, zo, rfl, hh4, hp4⟩ | ⟨rfl, hh4, x1, bm⟩, hc4⟩
 rotate_left
 ·have EN := Lib.hid hh4
  have hR : Hid (Mo.readM 3 (bts l) = (Mo.nil, 6)) := Lib.hid (by unfold Mo.readM; rw [if_pos (by decide)]; have e : Mo.partsP 3 (bts l) = none := (by unfold Mo.partsP; simp [E1.out, E2.out, E3.out, EN.out]); rw [e])
  have be : Blk v4 eb 30 #[.int .i64 0] := hc4.blk st.er (by have := st.br; have := Ne.symm st.mb; simp; omega)
  have bl := below_ch st.bel (Nat.le_refl _) hc4 (by have := st.low; simp; omega)
  have lo := st.low
  clear hh4 hc4 EN
  unfold bad6
  go_wp2
  refine leaves_bad rfl bm be st.mb rfl rfl (fun w' hc => ?_)
  exact ⟨by rw [hR.out], below_ch bl (Nat.le_refl _) hc (by simp; omega)⟩
 replace st := st.part hc4 hp4
 have hR : Hid (Mo.partsP 3 (bts l) = some (⟨3, y, mm, d, h, i, false, ⟨#[]⟩, 0, zb, zo⟩, bts sec)) := Lib.hid (by unfold Mo.partsP; simp [E1.out, E2.out, E3.out, hh4])
 clear hh4 hc4 hp4 E1 E2 E3
 obtain ⟨rr, hrr⟩ : ∃ rr, readR (bts sec) = rr := ⟨_, rfl⟩
 have CR := Lib.hid (pread_is sec hsec rr hrr)
 have HS : Hid ((⟨3, y, mm, d, h, i, rr.n, rr.s, rr.S, zb, zo⟩ : Mo).s.size <= 1000000) := Lib.hid (readR_small hrr)
 have HRR := Lib.hid hrr
 clear hrr hsec
 by_cases hk : rr.k = 0
 ·have g1 : (rr.k != 0) = false := by rw [hk]; rfl
  cases hok : Mo.okB ⟨3, y, mm, d, h, i, rr.n, rr.s, rr.S, zb, zo⟩ with
  | true =>
   have hE : Hid (Mo.readM 3 (bts l) = (⟨3, y, mm, d, h, i, rr.n, rr.s, rr.S, zb, zo⟩, 0)) := Lib.hid (by unfold Mo.readM; rw [if_pos (by decide), hR.out]; show Mo.doneM 3 _ = _; unfold Mo.doneM; rw [if_neg (by decide)]; simp only [HRR.out]; rw [if_neg (by rw [hk]; decide)]; show (if Mo.okB ⟨3, y, mm, d, h, i, rr.n, rr.s, rr.S, zb, zo⟩ = true then _ else _) = _; rw [if_pos hok]; rfl)
   clear hR HRR hk
   go_wp2_with (first
    | (first
     | (go_at_call 100; refine (pdated3 _).mono ?_; rintro e w9 ⟨rfl, rfl⟩)
     | (go_at_call 102; refine (ptimed3 _).mono ?_; rintro e w9 ⟨rfl, rfl⟩))
    | (go_at_call 246; refine (CR.out _ ((hV.next st.bel).good)).mono ?_; rintro e w5 ⟨rfl, hb⟩; replace st := st.pass hb; clear hb)
    | (refine wl_storeA st.pd.mo rfl _ _ rfl rfl rfl (by kernel_rfl) rfl rfl rfl (fun W8 b8 hg => ?_); replace st := st.store (y := ⟨3, y, mm, d, h, i, rr.n, rr.s, rr.S, zb, zo⟩) b8 hg; clear hg b8)
    | (refine wl_storeM st.pd.mo rfl _ _ rfl rfl rfl (by kernel_rfl) (Nat.le_of_ble_eq_true rfl) rfl rfl (fun W9 b9 hg => ?_); replace st := st.store (y := ⟨3, y, mm, d, h, i, rr.n, rr.s, rr.S, zb, zo⟩) b9 hg; clear hg b9)
    | (refine wl_loadC st.er rfl (by kernel_rfl) _ rfl (j := 0) (v := .int .i64 rr.k) rfl rfl ?_)
    | (refine wl_storeC (v := .int .i64 rr.k) st.er rfl _ _ rfl rfl rfl rfl (by kernel_rfl) (Nat.le_of_ble_eq_true rfl) rfl (fun W9 b9 hg => ?_); replace st := st.err (f := rr.k) b9 hg; clear hg b9)
    | (refine wl_loadA st.pd.mo rfl (by kernel_rfl) _ rfl rfl ?_)
    | (go_at_call 72; refine (pvalid_is ⟨3, y, mm, d, h, i, rr.n, rr.s, rr.S, zb, zo⟩ HS.out _ M (hV.next st.bel)).mono ?_; rw [hok]; rintro e w5 ⟨rfl, hb⟩; replace st := st.pass hb; clear hb)
    | (refine wl_storeA st.pd.mo rfl _ _ rfl rfl rfl (by kernel_rfl) rfl rfl rfl (fun W8 b8 hg => ?_); replace st := st.store (y := ⟨3, y, mm, d, h, i, rr.n, rr.s, rr.S, zb, zo⟩) b8 hg; clear hg b8)
    | (refine wl_storeC (v := .int .i64 0) st.er rfl _ _ rfl rfl rfl rfl (by kernel_rfl) (Nat.le_of_ble_eq_true rfl) rfl (fun W9 b9 hg => ?_); replace st := st.err (f := 0) b9 hg; clear hg b9))
   exact leaves_good rfl st.pd.mo st.er rfl rfl ⟨by rw [hE.out], st.bel⟩
  | false =>
   have hE : Hid (Mo.readM 3 (bts l) = (Mo.nil, 6)) := Lib.hid (by unfold Mo.readM; rw [if_pos (by decide), hR.out]; show Mo.doneM 3 _ = _; unfold Mo.doneM; rw [if_neg (by decide)]; simp only [HRR.out]; rw [if_neg (by rw [hk]; decide)]; show (if Mo.okB ⟨3, y, mm, d, h, i, rr.n, rr.s, rr.S, zb, zo⟩ = true then _ else _) = _; rw [if_neg (by rw [hok]; decide)])
   clear hR HRR hk
   go_wp2_with (first
    | (first
     | (go_at_call 100; refine (pdated3 _).mono ?_; rintro e w9 ⟨rfl, rfl⟩)
     | (go_at_call 102; refine (ptimed3 _).mono ?_; rintro e w9 ⟨rfl, rfl⟩))
    | (go_at_call 246; refine (CR.out _ ((hV.next st.bel).good)).mono ?_; rintro e w5 ⟨rfl, hb⟩; replace st := st.pass hb; clear hb)
    | (refine wl_storeA st.pd.mo rfl _ _ rfl rfl rfl (by kernel_rfl) rfl rfl rfl (fun W8 b8 hg => ?_); replace st := st.store (y := ⟨3, y, mm, d, h, i, rr.n, rr.s, rr.S, zb, zo⟩) b8 hg; clear hg b8)
    | (refine wl_storeM st.pd.mo rfl _ _ rfl rfl rfl (by kernel_rfl) (Nat.le_of_ble_eq_true rfl) rfl rfl (fun W9 b9 hg => ?_); replace st := st.store (y := ⟨3, y, mm, d, h, i, rr.n, rr.s, rr.S, zb, zo⟩) b9 hg; clear hg b9)
    | (refine wl_loadC st.er rfl (by kernel_rfl) _ rfl (j := 0) (v := .int .i64 rr.k) rfl rfl ?_)
    | (refine wl_storeC (v := .int .i64 rr.k) st.er rfl _ _ rfl rfl rfl rfl (by kernel_rfl) (Nat.le_of_ble_eq_true rfl) rfl (fun W9 b9 hg => ?_); replace st := st.err (f := rr.k) b9 hg; clear hg b9)
    | (refine wl_loadA st.pd.mo rfl (by kernel_rfl) _ rfl rfl ?_)
    | (go_at_call 72; refine (pvalid_is ⟨3, y, mm, d, h, i, rr.n, rr.s, rr.S, zb, zo⟩ HS.out _ M (hV.next st.bel)).mono ?_; rw [hok]; rintro e w5 ⟨rfl, hb⟩; replace st := st.pass hb; clear hb)
    | (refine wl_storeA st.pd.mo rfl _ _ rfl rfl rfl (by kernel_rfl) rfl rfl rfl (fun W8 b8 hg => ?_); replace st := st.store (y := ⟨3, y, mm, d, h, i, rr.n, rr.s, rr.S, zb, zo⟩) b8 hg; clear hg b8)
    | (refine wl_storeC (v := .int .i64 0) st.er rfl _ _ rfl rfl rfl rfl (by kernel_rfl) (Nat.le_of_ble_eq_true rfl) rfl (fun W9 b9 hg => ?_); replace st := st.err (f := 0) b9 hg; clear hg b9))
   exact leaves_bad rfl st.pd.mo st.er st.mb rfl rfl (fun w2 hc => ⟨by rw [hE.out], below_ch st.bel (Nat.le_refl _) hc (by have := st.low; simp; omega)⟩)
 ·have g1 : (rr.k != 0) = true := bne_iff_ne.2 hk
  have hE : Hid (Mo.readM 3 (bts l) = (Mo.nil, rr.k)) := Lib.hid (by unfold Mo.readM; rw [if_pos (by decide), hR.out]; show Mo.doneM 3 _ = _; unfold Mo.doneM; rw [if_neg (by decide)]; simp only [HRR.out]; rw [if_pos hk])
  clear hR HRR hk HS
  go_wp2_with (first
   | (first
    | (go_at_call 100; refine (pdated3 _).mono ?_; rintro e w9 ⟨rfl, rfl⟩)
    | (go_at_call 102; refine (ptimed3 _).mono ?_; rintro e w9 ⟨rfl, rfl⟩))
   | (go_at_call 246; refine (CR.out _ ((hV.next st.bel).good)).mono ?_; rintro e w5 ⟨rfl, hb⟩; replace st := st.pass hb; clear hb)
   | (refine wl_storeA st.pd.mo rfl _ _ rfl rfl rfl (by kernel_rfl) rfl rfl rfl (fun W8 b8 hg => ?_); replace st := st.store (y := ⟨3, y, mm, d, h, i, rr.n, rr.s, rr.S, zb, zo⟩) b8 hg; clear hg b8)
   | (refine wl_storeM st.pd.mo rfl _ _ rfl rfl rfl (by kernel_rfl) (Nat.le_of_ble_eq_true rfl) rfl rfl (fun W9 b9 hg => ?_); replace st := st.store (y := ⟨3, y, mm, d, h, i, rr.n, rr.s, rr.S, zb, zo⟩) b9 hg; clear hg b9)
   | (refine wl_loadC st.er rfl (by kernel_rfl) _ rfl (j := 0) (v := .int .i64 rr.k) rfl rfl ?_)
   | (refine wl_storeC (v := .int .i64 rr.k) st.er rfl _ _ rfl rfl rfl rfl (by kernel_rfl) (Nat.le_of_ble_eq_true rfl) rfl (fun W9 b9 hg => ?_); replace st := st.err (f := rr.k) b9 hg; clear hg b9)
   | (refine wl_loadA st.pd.mo rfl (by kernel_rfl) _ rfl rfl ?_)
   | (go_at_call 72; refine (pvalid_is ⟨3, y, mm, d, h, i, rr.n, rr.s, rr.S, zb, zo⟩ HS.out _ M (hV.next st.bel)).mono ?_; rw [hok]; rintro e w5 ⟨rfl, hb⟩; replace st := st.pass hb; clear hb)
   | (refine wl_storeA st.pd.mo rfl _ _ rfl rfl rfl (by kernel_rfl) rfl rfl rfl (fun W8 b8 hg => ?_); replace st := st.store (y := ⟨3, y, mm, d, h, i, rr.n, rr.s, rr.S, zb, zo⟩) b8 hg; clear hg b8)
   | (refine wl_storeC (v := .int .i64 0) st.er rfl _ _ rfl rfl rfl rfl (by kernel_rfl) (Nat.le_of_ble_eq_true rfl) rfl (fun W9 b9 hg => ?_); replace st := st.err (f := 0) b9 hg; clear hg b9))
  exact leaves_bad rfl st.pd.mo st.er st.mb rfl rfl (fun w2 hc => ⟨by rw [hE.out], below_ch st.bel (Nat.le_refl _) hc (by have := st.low; simp; omega)⟩)
end Go.Proofs.YthoojcdjjecogaaGreatDoor
