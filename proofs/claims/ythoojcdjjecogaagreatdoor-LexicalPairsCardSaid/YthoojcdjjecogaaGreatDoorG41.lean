/-
  Part 41 of the proof: what functions return, and plain facts (Xrck6 Xbey Xcont Xrtx5 Xsize Xrtx6 Xptx6 Xlen1 Xvals Xrsame). Conditions: each theorem names its own.
-/
import Derived.Test.YthoojcdjjecogaaGreatDoorG40
import Derived.Test.YthoojcdjjecogaaGreatDoorG25
import Derived.Lib.RuneCount
import Derived.Laws.IdiomStrings
import Derived.Test.YthoojcdjjecogaaGreatDoorG39
set_option maxRecDepth 1000000
set_option maxHeartbeats 16000000
namespace Go.Proofs.YthoojcdjjecogaaGreatDoor
open Go Go.RowKit Go.Ex

def va6 (b : Bool) : V := vl (it 6) (xs 2) (.bool b) (xb 4) (xs 5) (xi 6) (moL 7) (.atom 18)
noncomputable def ckH (b : Bool) : H := ⟨(h0.rows.put 10 (some ⟨[it 6, xs 2, .bool b, xb 4, xs 5, xi 6] ++ moL 7 ++ [.atom 18], 29, 1, false, true, none⟩)).put (10 + 1) (some ⟨[it 0, xs 2, .bool b, xb 4, xs 5, xi 6] ++ moL 7 ++ [.nils], 29, 1, false, true, none⟩), 10 + 2, 10 + 1⟩
def ckTs : List Nat := [1, 2, 3, 7]
def ckNeed : List V := [.ptr 10 0, it 0, .ptr (10 + 1) 0, it 0]
def ckPat : List V := [.ptr 10 0, it 0, .ptr (10 + 1) 0, xi 20]
def ckBad : List V := [.ptr 10 0, it 2, .ptr (10 + 1) 0]
def ckEnd : List V := [.ptr 10 0, it 0, .ptr (10 + 1) 0]
noncomputable def ckLoops (b : Bool) : List LoopX := [⟨[(.lt (.int 300) (.slen 18), false), (.at 19, true)], ckTs, ckNeed, ckH b, .ret, ckBad⟩, ⟨[(.lt (.int 300) (.slen 18), false), (.at 19, false)], ckTs, ckNeed, ckH b, .exit 1, ckEnd⟩]
def ckT6 (b : Bool) : Tree := .node (.lt (.int 300) (.slen 18)) z2 (.node (.at 19) z2 (match b with
 | true => .node (.seq (.at 2) (.str [])) z2 z2
 | false => chT (bcT 1 ++ bcD 1 ++ bcM 1) (.node (.lt (.int 0) (.slen 18)) z0 z0) z2))
theorem run_rck6 : ∀ b ∈ [true, false], chk (runLp Tryz.prog nG (fun _ => none) gd moT ⟨[], [], [(0, ckLoops b)]⟩ 100 18 [va6 b] h0) (ckT6 b) [(.isSl 18, true)] = true := by decide +kernel
def ckG : Giv := ⟨[⟨18, [vaV 22 (.atom 39)], [(.eq (.at 22) (.int 6), false)], xi 40⟩], elO 18 20, []⟩
def ckRet : Tree := .leaf (.tup [it (-1), .ptr 10 0, it 2, .ptr (10 + 1) 0, xi 20])
def ckGo : Tree := .leaf (.tup [it 0, .ptr 10 0, it 0, .ptr (10 + 1) 0, .xi .i64 (.add .i64 (.at 20) (.int 1))])
def ckEx : Tree := .leaf (.tup [it 2, .ptr 10 0, it 0, .ptr (10 + 1) 0, xi 20])
def ckRd : Tree := .node (.eq (.at 22) (.int 6)) ckRet (.node (.eq (.at 40) (.int 0)) ckGo ckRet)
def ckF : Fx := [(.isSl 18, true), (.isSl 39, true), (.lt (.at 20) (.slen 18), true)]
theorem run_ckr : ∀ b ∈ [true, false], chk (runRd Tryz.prog nG (fun _ => none) gd moT ckG 100 18 0 ckTs ckPat (ckH b)) ckRd ckF = true := by decide +kernel
theorem run_cke : ∀ b ∈ [true, false], chk (runRd Tryz.prog nG (fun _ => none) gd moT ⟨[], [], []⟩ 100 18 0 ckTs ckPat (ckH b)) ckEx [(.isSl 18, true), (.lt (.at 20) (.slen 18), false)] = true := by decide +kernel
theorem ckH_rows : ∀ b ∈ [true, false], (ckH b).rows.all (fun r => V.los 20 r.cells) = true := by decide +kernel
theorem b_mem (b : Bool) : b ∈ [true, false] := by cases b <;> decide
def rc6E (v : Vl) (l : Value) (lc : Bool) : List Value := vE v l ++ [.bool lc]
def ckR (b off : Nat) (es : List El) (k : Nat) : List Value := elR k b off (es.getD k default) ++ [.int .i64 (chI (Lx.okV (es.getD k default).v (es.getD k default).n false))]
theorem ckRd_at (E0 : Nat -> Value) (b off : Nat) (es : List El) (k : Nat) : ckRd.at (rndE E0 20 (ckR b off es k)) = bif decide ((es.getD k default).v.k = 6) then V.tup [it (-1), .ptr 10 0, it 2, .ptr (10 + 1) 0, xi 20] else
  bif decide (chI (Lx.okV (es.getD k default).v (es.getD k default).n false) = 0) then V.tup [it 0, .ptr 10 0, it 0, .ptr (10 + 1) 0, .xi .i64 (.add .i64 (.at 20) (.int 1))] else V.tup [it (-1), .ptr 10 0, it 2, .ptr (10 + 1) 0, xi 20] := rfl
theorem getD_of {es : List El} {k : Nat} {e : El} (h : es[k]? = some e) : es.getD k default = e := by rw [List.getD_eq_getElem?_getD, h]; rfl
theorem def_slice : SliceN (default : El).l (default : El).n := nilL_slice
theorem ckR_one (b off : Nat) {es : List El} (hes : ∀ e ∈ es, e.Sz) (k : Nat) : (ckR b off es k).all Value.oneCell' = true := by
 refine elR_one ?_ rfl
 cases hk : es[k]? with
 | none => rw [List.getD_eq_getElem?_getD, hk]; exact def_slice
 | some e => rw [getD_of hk]; exact (hes e (List.mem_of_getElem? hk)).l
theorem ck_round {v : Vl} {es : List El} {b off c : Nat} {lc : Bool} {w : World} {M : Int} (hh : Holds w b off es) (hes : ∀ e ∈ es, e.Sz) (k : Nat) (hk : k < es.length) :
  ckF.Ok (rndE (envE (.int .i64 M :: rc6E v (.slice (some ⟨b, off, none⟩) es.length c) lc)) 20 (ckR b off es k)) /\ ckG.Ok Tryz.prog (rndE (envE (.int .i64 M :: rc6E v (.slice (some ⟨b, off, none⟩) es.length c) lc)) 20 (ckR b off es k)) nG w (VK M w) (nOf Tryz.f18) 1 (subOf (bodyOf Tryz.f18) 0) := by
 have he : es[k]? = some es[k] := List.getElem?_eq_getElem hk
 have hsz := hes es[k] (List.getElem_mem hk)
 unfold ckR
 rw [getD_of he]
 obtain ⟨e, hee⟩ : ∃ e, es[k] = e := ⟨_, rfl⟩
 rw [hee] at he hsz ⊢
 obtain ⟨E, hE⟩ : ∃ E, rndE (envE (.int .i64 M :: rc6E v (.slice (some ⟨b, off, none⟩) es.length c) lc)) 20 (elR k b off e ++ [.int .i64 (chI (Lx.okV e.v e.n false))]) = E := ⟨_, rfl⟩
 have h18 : E 18 = .slice (some ⟨b, off, none⟩) es.length c := by rw [<- hE, rndE_lt (by decide)]; rfl
 have h20 : E 20 = .int .i64 (k : Int) := hE ▸ rnd_k
 have h21 : E 21 = .pointer (some ⟨b, off + k * 18, none⟩) := hE ▸ rnd_p
 have hel : ∀ i, i < 18 -> E (22 + i) = e.enc.getD i (.bool false) := fun i hi => hE ▸ rnd_el i hi
 have h40 : E 40 = .int .i64 (chI (Lx.okV e.v e.n false)) := hE ▸ rnd_tl 0
 have h39 : E 39 = e.l := hel 17 (by decide)
 rw [hE]
 refine ⟨⟨by simp only [X.evB, h18], isSl_ok hsz.l h39, ?_, trivial⟩, giv_flat ⟨?_, trivial⟩ (elO_ok hh he h18 h20 h21 hel)⟩
 ·simp only [X.evB, X.evI, h20, h18]
  exact decide_eq_true (by omega)
 ·refine okX_el (m := 22) rfl fk hel fun hp L w' hw => ?_
  have h22 : E 22 = .int .i64 e.v.k := hel 0 (by decide)
  have h6 : X.evB E (.eq (.at 22) (.int 6)) = false := hp.1
  simp only [X.evB, X.evI, h22] at h6
  have e2 : (xi 40).den L E = .int .i64 (chI (Lx.okV e.v e.n false)) := by simp only [xi, V.den, X.evI, h40]
  rw [e2]
  exact xrck_is e.v hsz.v e.l e.n hsz.l false (of_decide_eq_false h6) w' M hw.1
theorem wrap_k {k n : Nat} (hk : k < n) (hn : n <= 300) : IntKind.i64.wrap ((k : Int) + 1) = ((k + 1 : Nat) : Int) := by
 rw [w64 (by omega) (by omega)]; omega
theorem ck_step {E0 : Nat -> Value} {b off : Nat} {es : List El} {k : Nat} (hk : k < es.length) (hn : es.length <= 300) (hg : Lx.badE (es.getD k default) = false) :
  ∃ vs, ckRd.at (rndE E0 20 (ckR b off es k)) = .tup (.int .i64 0 :: vs) /\ ∀ L, V.dens L (rndE E0 20 (ckR b off es k)) vs = V.dens L (rndE E0 20 (ckR b off es (k + 1))) ckPat := by
 unfold Lx.badE at hg
 rw [Bool.or_eq_false_iff] at hg
 have h2 : Lx.okV (es.getD k default).v (es.getD k default).n false = true := by simpa using hg.2
 refine ⟨_, (ckRd_at E0 b off es k).trans (by rw [hg.1, h2, chI_zero]; rfl), fun L => ?_⟩
 have e1 : rndE E0 20 (ckR b off es k) 20 = .int .i64 (k : Int) := rnd_k
 have e2 : rndE E0 20 (ckR b off es (k + 1)) 20 = .int .i64 ((k + 1 : Nat) : Int) := rnd_k
 simp only [ckPat, V.dens, V.den, xi, it, X.evI, e1, e2, wrap_k hk hn]
theorem ck_loops {v : Vl} {es : List El} {b off c : Nat} {w : World} {M : Int} (hh : Holds w b off es) (hes : ∀ e ∈ es, e.Sz) :
  ∀ x ∈ ckLoops v.b, x.Ok Tryz.prog (envE (.int .i64 M :: rc6E v (.slice (some ⟨b, off, none⟩) es.length c) (Lx.badL es))) nG w (nOf Tryz.f18) (subOf (bodyOf Tryz.f18) 0) := by
 obtain ⟨E0, hE0⟩ : ∃ E0, envE (.int .i64 M :: rc6E v (.slice (some ⟨b, off, none⟩) es.length c) (Lx.badL es)) = E0 := ⟨_, rfl⟩
 have hone : (rc6E v (.slice (some ⟨b, off, none⟩) es.length c) (Lx.badL es)).all Value.oneCell' = true := rfl
 have hneed : ∀ L, V.dens L E0 ckNeed = V.dens L (rndE E0 20 (ckR b off es 0)) ckPat := fun L => by
  have e1 : rndE E0 20 (ckR b off es 0) 20 = .int .i64 ((0 : Nat) : Int) := rnd_k
  simp only [ckNeed, ckPat, V.dens, V.den, xi, it, X.evI, e1]
  rfl
 intro x hx
 simp only [ckLoops, List.mem_cons, List.not_mem_nil, or_false] at hx
 rcases hx with rfl | rfl
 ·intro hp
  have hn : X.evB (envE (.int .i64 M :: rc6E v (.slice (some ⟨b, off, none⟩) es.length c) (Lx.badL es))) (.lt (.int 300) (.slen 18)) = false := hp.1
  have hn : es.length <= 300 := by have := of_decide_eq_false (show decide ((300 : Int) < (es.length : Int)) = false from hn); omega
  have hb : Lx.badL es = true := hp.2.1
  obtain ⟨K, hK, hbad, hgood⟩ := first_bad Lx.badE es hb
  refine loop_rk (m := 20) Tryz.func18 (by kernel_rfl) (by kernel_rfl) (run_ckr v.b (b_mem _)) (run_ckr v.b (b_mem _)) K (ckR b off es) hone (ckR_one b off hes) (by decide) (ckH_rows v.b (b_mem _))
   (fun k hk => (ck_round hh hes k (by omega)).1) (ck_round hh hes K hK).1 (fun k hk => (ck_round hh hes k (by omega)).2) (ck_round hh hes K hK).2 rfl rfl (hE0 ▸ hneed) (fun k hk => ck_step (by omega) hn ?_) (by intro h; cases h) ⟨[.ptr 10 0, it 2, .ptr (10 + 1) 0, xi 20], ?_, fun L => rfl⟩ hp
  ·rw [getD_of (List.getElem?_eq_getElem (show k < es.length by omega))]
   exact hgood k _ hk (List.getElem?_eq_getElem (show k < es.length by omega))
  ·rw [ckRd_at]
   have q := hbad _ (List.getElem?_eq_getElem hK)
   rw [<- getD_of (List.getElem?_eq_getElem hK)] at q
   unfold Lx.badE at q
   rw [chI_zero]
   rcases Bool.or_eq_true _ _ ▸ q with h | h
   ·rw [h]; rfl
   ·have : Lx.okV (es.getD K default).v (es.getD K default).n false = false := by simpa using h
    rw [this]
    cases decide ((es.getD K default).v.k = 6) <;> rfl
 ·intro hp
  have hn : X.evB (envE (.int .i64 M :: rc6E v (.slice (some ⟨b, off, none⟩) es.length c) (Lx.badL es))) (.lt (.int 300) (.slen 18)) = false := hp.1
  have hn : es.length <= 300 := by have := of_decide_eq_false (show decide ((300 : Int) < (es.length : Int)) = false from hn); omega
  have hb : Lx.badL es = false := hp.2.1
  refine loop_rk (m := 20) Tryz.func18 (by kernel_rfl) (by kernel_rfl) (run_ckr v.b (b_mem _)) (run_cke v.b (b_mem _)) es.length (ckR b off es) hone (ckR_one b off hes) (by decide) (ckH_rows v.b (b_mem _))
   (fun k hk => (ck_round hh hes k hk).1) ⟨rfl, ?_, trivial⟩ (fun k hk => (ck_round hh hes k hk).2) (giv_flat trivial trivial) rfl rfl (hE0 ▸ hneed) (fun k hk => ck_step hk hn ?_) (by intro h; cases h) ⟨[.ptr 10 0, it 0, .ptr (10 + 1) 0, xi 20], rfl, fun L => rfl⟩ hp
  ·exact decide_eq_false (show ¬ ((es.length : Int) < (es.length : Int)) by omega)
  ·have hm := List.getElem?_eq_getElem hk
   rw [getD_of hm]
   exact List.any_eq_false.1 hb _ (List.getElem_mem hk) |> fun h => by simpa using h
theorem chB_6 {v : Vl} {l : Value} {n : Nat} (hl : SliceN l n) {E : Nat -> Value} (hat : ∀ i, i < 18 -> E (1 + i) = (vE v l).getD i (.bool false)) (h6 : v.k = 6) (hb : v.b = false) : chB E (bcT 1 ++ bcD 1 ++ bcM 1) = barV v n := by
 have q := bcK_at v l n hl E 1 hat 6 (.inl h6)
 have e3 : E 3 = .bool v.b := hat 2 (by decide)
 have hB : chB E (bcB 1) = true := by simp only [chB, bcB, List.all_cons, List.all_nil, X.evB, e3, hb]; rfl
 unfold barV
 rw [<- q]
 show chB E (bcT 1 ++ bcD 1 ++ bcM 1) = chB E (bcT 1 ++ bcB 1 ++ bcD 1 ++ bcM 1 ++ [])
 rw [List.append_nil, chB_append, chB_append, chB_append, chB_append, chB_append, hB, Bool.and_true]
theorem okV_6 {v : Vl} {n : Nat} {lc : Bool} (h6 : v.k = 6) : Lx.okV v n lc = ((decide (n <= 300) && !lc) && barV v n) := by
 unfold Lx.okV Lx.kindB barV
 rw [if_neg (by omega), if_neg (by omega), if_neg (by omega), if_neg (by omega), if_pos h6]
theorem bar_b {v : Vl} {n : Nat} (h6 : v.k = 6) (hb : v.b = true) : barV v n = false := by
 unfold barV Lx.bareB
 rw [hb, decide_eq_false (show ¬ v.k = 2 by omega)]
 simp
theorem ckT6_at {v : Vl} {l : Value} {n : Nat} (hl : SliceN l n) {E : Nat -> Value} (hat : ∀ i, i < 18 -> E (1 + i) = (vE v l).getD i (.bool false)) (h6 : v.k = 6) (lc : Bool) (h19 : E 19 = .bool lc) : ((ckT6 v.b).at E).den L0 E = .int .i64 (bif Lx.okV v n lc then 0 else 2) := by
 have h18 : E 18 = l := hat 17 (by decide)
 have hd : X.evB E (.lt (.int 300) (.slen 18)) = !decide (n <= 300) := by
  simp only [X.evB]
  rw [show X.evI E (.slen 18) = (n : Int) from slen_ok hl h18, <- decide_not]
  exact decide_eq_decide.2 (by simp only [X.evI]; omega)
 have h9 : X.evB E (.at 19) = lc := by simp only [X.evB, h19]
 rw [okV_6 h6]
 show (bif X.evB E (.lt (.int 300) (.slen 18)) then it 2 else bif X.evB E (.at 19) then it 2 else _ : V).den L0 E = _
 rw [hd, h9]
 cases decide (n <= 300) with
 | false => rfl
 | true =>
  cases lc with
  | true => rfl
  | false =>
   cases hb : v.b with
   | true =>
    rw [bar_b h6 hb]
    show (bif X.evB E _ then it 2 else it 2 : V).den L0 E = _
    cases X.evB E (.seq (.at 2) (.str [])) <;> rfl
   | false =>
    rw [<- chB_6 hl hat h6 hb]
    show ((chT (bcT 1 ++ bcD 1 ++ bcM 1) (.node (.lt (.int 0) (.slen 18)) z0 z0) z2).at E).den L0 E = _
    rw [chT_at]
    cases chB E (bcT 1 ++ bcD 1 ++ bcM 1) with
    | false => rfl
    | true =>
     show (bif X.evB E _ then it 0 else it 0 : V).den L0 E = _
     cases X.evB E (.lt (.int 0) (.slen 18)) <;> rfl
def ckT0 (b : Bool) : Tree := match b with
 | true => .node (.seq (.at 2) (.str [])) z2 z2
 | false => chT (bcT 1 ++ bcD 1 ++ bcM 1) z0 z2
theorem run_rck60 : ∀ b ∈ [true, false], chk (runTr Tryz.prog nG (fun _ => none) gd moT [] 100 18 [va6 b] h0) (ckT0 b) [(.isSl 18, true), (.lt (.int 300) (.slen 18), false), (.lt (.int 0) (.slen 18), false)] = true := by decide +kernel
theorem va6_den {v : Vl} (h6 : v.k = 6) (l : Value) (M : Int) (r : List Value) : (V.dens L0 (envE (.int .i64 M :: (vE v l ++ r))) [va6 v.b]).toArray = #[v.val l] := by
 unfold va6
 rw [show it 6 = V.int .i64 v.k by rw [h6]; rfl]
 rfl
theorem xrck6_is (v : Vl) (h6 : v.k = 6) (l : Value) (es : List El) (w : World) (hl : Lst w l es) (hes : ∀ e ∈ es, e.Sz) (M : Int) (hV : Vars M w) : Calls Tryz.prog 18 #[v.val l] w fun e w' => e = .returned (.int .i64 (bif Lx.okV v es.length (Lx.badL es) then 0 else 2)) /\ Below w.heap.size w w' := by
 have hsl := hl.slice
 rcases hl with ⟨rfl, a, c, rfl⟩ | ⟨b, off, c, rfl, hh⟩
 ·have hat := vE_at v (.slice a 0 c) M [.bool (Lx.badL [])]
  have hs : X.evB (envE (.int .i64 M :: rc6E v (.slice a 0 c) (Lx.badL []))) (.isSl 18) = true := isSl_ok hsl rfl
  have hn : X.evI (envE (.int .i64 M :: rc6E v (.slice a 0 c) (Lx.badL []))) (.slen 18) = 0 := rfl
  refine tree_rv (env := rc6E v (.slice a 0 c) (Lx.badL [])) (run_rck60 v.b (b_mem _)) trivial rfl ⟨hs, (by show decide ((300 : Int) < X.evI _ (.slen 18)) = false; rw [hn]; rfl), (by show decide ((0 : Int) < X.evI _ (.slen 18)) = false; rw [hn]; rfl), trivial⟩ rfl (va6_den h6 _ M _) ?_ hV
  rw [okV_6 h6]
  show _ = Value.int .i64 (bif barV v 0 then 0 else 2)
  cases hb : v.b with
  | true =>
   rw [bar_b h6 hb]
   show (bif X.evB _ _ then it 2 else it 2 : V).den L0 _ = _
   cases X.evB (envE (.int .i64 M :: rc6E v (.slice a 0 c) (Lx.badL []))) (.seq (.at 2) (.str [])) <;> rfl
  | false =>
   rw [<- chB_6 (n := 0) hsl hat h6 hb]
   show ((chT (bcT 1 ++ bcD 1 ++ bcM 1) z0 z2).at _).den L0 _ = _
   rw [chT_at]
   show (bif chB (envE (.int .i64 M :: rc6E v (.slice a 0 c) (Lx.badL []))) (bcT 1 ++ bcD 1 ++ bcM 1) then z0.at _ else z2.at _ : V).den L0 _ = Value.int .i64 (bif chB (envE (.int .i64 M :: rc6E v (.slice a 0 c) (Lx.badL []))) (bcT 1 ++ bcD 1 ++ bcM 1) then 0 else 2)
   cases chB (envE (.int .i64 M :: rc6E v (.slice a 0 c) (Lx.badL []))) (bcT 1 ++ bcD 1 ++ bcM 1) <;> rfl
 ·refine lp_rk (env := rc6E v (.slice (some ⟨b, off, none⟩) es.length c) (Lx.badL es)) Tryz.func18 (by kernel_rfl) (run_rck6 v.b (b_mem _)) (giv_one trivial trivial (ck_loops hh hes)) rfl ⟨isSl_ok hsl rfl, trivial⟩ rfl (va6_den h6 _ M _) ?_ hV
  exact ckT6_at hsl (vE_at v _ M [.bool (Lx.badL es)]) h6 (Lx.badL es) rfl

noncomputable def byH : H := ⟨h0.rows.put 10 (some ⟨[xi 1, xs 2, xb 3, xb 4, xs 5, xi 6] ++ moL 7 ++ [.atom 18], 29, 1, false, true, none⟩), 10 + 1, 1000000⟩
noncomputable def byH2 : H := ⟨byH.rows.put (10 + 1) (some ⟨[xi 22, xs 23, xb 24, xb 25, xs 26, xi 27] ++ moL 28 ++ [.atom 39], 29, 1, false, true, none⟩), 10 + 2, 10 + 1⟩
def biO : List OpX := [.idx 27 (.atom 39) (xi 41) (.atom 42), .fld 29 (.atom 42) 5 (.atom 44), .ld 27 (.atom 44) (.atom 46), .fld 29 (.atom 42) 1 (.atom 43), .ld 9 (.atom 43) (xs 45)]
def biTs : List Nat := [1, 2, 3, 4, 5]
def biNeed : List V := [.ptr 10 0, .bool false, xi 20, .ptr (10 + 1) 0, it 0]
def biPat : List V := [.ptr 10 0, .bool false, xi 20, .ptr (10 + 1) 0, xi 41]
def biBad : List V := [.ptr 10 0, .bool true, xi 20, .ptr (10 + 1) 0]
def biEnd : List V := [.ptr 10 0, .bool false, xi 20, .ptr (10 + 1) 0]
def biRet : Tree := .leaf (.tup [it (-1), .ptr 10 0, .bool true, xi 20, .ptr (10 + 1) 0, xi 41])
def biGo : Tree := .leaf (.tup [it 0, .ptr 10 0, .bool false, xi 20, .ptr (10 + 1) 0, .xi .i64 (.add .i64 (.at 41) (.int 1))])
def biEx : Tree := .leaf (.tup [it 3, .ptr 10 0, .bool false, xi 20, .ptr (10 + 1) 0, xi 41])
def biRd : Tree := .node (.lt (.int 0) (.slen 46)) biRet (.node (.lt (.int 1000) (.len (.at 45))) biRet biGo)
def biF : Fx := [(.isSl 39, true), (.isSl 46, true), (.lt (.at 41) (.slen 39), true)]
noncomputable def biLoops : List LoopX := [⟨[(.lt (.int 3) (.slen 39), false), (.at 40, true)], biTs, biNeed, byH2, .ret, biBad⟩, ⟨[(.lt (.int 3) (.slen 39), false), (.at 40, false)], biTs, biNeed, byH2, .exit 2, biEnd⟩]
theorem run_bir : chk (runRd Tryz.prog nG (fun _ => none) gd moT ⟨[], biO, []⟩ 100 12 1 biTs biPat byH2) biRd biF = true := by decide +kernel
theorem run_bie : chk (runRd Tryz.prog nG (fun _ => none) gd moT ⟨[], [], []⟩ 100 12 1 biTs biPat byH2) biEx [(.isSl 39, true), (.lt (.at 41) (.slen 39), false)] = true := by decide +kernel
theorem byH2_rows : byH2.rows.all (fun r => V.los 41 r.cells) = true := by decide +kernel
def boTs : List Nat := [1, 2, 3]
def boNeed : List V := [.ptr 10 0, .bool false, it 0]
def boPat : List V := [.ptr 10 0, .bool false, xi 20]
def boBad : List V := [.ptr 10 0, .bool true]
def boEnd : List V := [.ptr 10 0, .bool false]
def boRet : Tree := .leaf (.tup [it (-1), .ptr 10 0, .bool true, xi 20])
def boGo : Tree := .leaf (.tup [it 0, .ptr 10 0, .bool false, .xi .i64 (.add .i64 (.at 20) (.int 1))])
def boEx : Tree := .leaf (.tup [it 1, .ptr 10 0, .bool false, xi 20])
def boRd : Tree := .node (.lt (.int 1000) (.len (.at 23))) boRet (.node (.lt (.int 1000) (.len (.at 26))) boRet (.node (.lt (.int 1000) (.len (.at 35))) boRet (.node (.lt (.int 3) (.slen 39)) boRet (.node (.at 40) boRet boGo))))
def boF : Fx := [(.isSl 18, true), (.isSl 39, true), (.lt (.at 20) (.slen 18), true)]
noncomputable def boLoops : List LoopX := [⟨[(.lt (.int 400) (.slen 18), false), (.at 19, true)], boTs, boNeed, byH, .ret, boBad⟩, ⟨[(.lt (.int 400) (.slen 18), false), (.at 19, false)], boTs, boNeed, byH, .exit 0, boEnd⟩]
theorem run_bor : chk (runRd Tryz.prog nG (fun _ => none) gd moT ⟨[], elO 18 20, [(1, biLoops)]⟩ 100 12 0 boTs boPat byH) boRd boF = true := by decide +kernel
theorem run_boe : chk (runRd Tryz.prog nG (fun _ => none) gd moT ⟨[], [], []⟩ 100 12 0 boTs boPat byH) boEx [(.isSl 18, true), (.lt (.at 20) (.slen 18), false)] = true := by decide +kernel
theorem byH_rows : byH.rows.all (fun r => V.los 20 r.cells) = true := by decide +kernel
def byT : Tree := .node (.lt (.int 2000) (.len (.at 2))) yesT (.node (.lt (.int 1000) (.len (.at 5))) yesT (.node (.lt (.int 1000) (.len (.at 14))) yesT (.node (.lt (.int 400) (.slen 18)) yesT (.node (.at 19) yesT noT))))
theorem run_by : chk (runLp Tryz.prog nG (fun _ => none) gd moT ⟨[], [], [(0, boLoops)]⟩ 100 12 [vaV 1 (.atom 18)] h0) byT [(.isSl 18, true)] = true := by decide +kernel
theorem wrap_s {k n : Nat} (hk : k < n) (hn : n <= 1000) : IntKind.i64.wrap ((k : Int) + 1) = ((k + 1 : Nat) : Int) := by
 rw [w64 (by omega) (by omega)]; omega
def biR (b off : Nat) (fs : List El) (j : Nat) : List Value := [.int .i64 (j : Int), .pointer (some ⟨b, off + j * 18, none⟩), .pointer (some ⟨b, off + j * 18 + 1, none⟩), .pointer (some ⟨b, off + j * 18 + 17, none⟩), .string (fs.getD j default).v.t, (fs.getD j default).l]
def badI (f : El) : Bool := decide (0 < f.n) || decide (1000 < f.v.t.size)
theorem biO_ok {w : World} {E : Nat -> Value} {b off c j : Nat} {fs : List El} {e : El} (hh : Holds w b off fs) (he : fs[j]? = some e) (h39 : E 39 = .slice (some ⟨b, off, none⟩) fs.length c) (h41 : E 41 = .int .i64 (j : Int)) (h42 : E 42 = .pointer (some ⟨b, off + j * 18, none⟩)) (h43 : E 43 = .pointer (some ⟨b, off + j * 18 + 1, none⟩))
  (h44 : E 44 = .pointer (some ⟨b, off + j * 18 + 17, none⟩)) (h45 : E 45 = .string e.v.t) (h46 : E 46 = e.l) : AllO Tryz.prog E w biO := by
 have hlt : j < fs.length := (List.getElem?_eq_some_iff.1 he).1
 have add_k : ((⟨b, off, none⟩ : Addr).add (j * 18)) = ⟨b, off + j * 18, none⟩ := by unfold Addr.add; split <;> simp_all
 refine ⟨⟨rfl, fun o ev x i L w' ho h1 h2 hw => ?_⟩, ⟨rfl, fun o ev x L w' ho h1 hw => ?_⟩, ⟨rfl, fun o ev x L w' ho h1 hw => ?_⟩, ⟨rfl, fun o ev x L w' ho h1 hw => ?_⟩, ⟨rfl, fun o ev x L w' ho h1 hw => ?_⟩, trivial⟩
 ·simp only [V.den, xi, X.evI, h39, h41, h42] at h1 h2 ⊢
  simp [execOp, ho, h1, h2, Instr.indexAt, asIntOf, run_underlying' Tryz.underlying27, Tryz.sizeOf29, add_k, hlt]
 ·simp only [V.den, h42, h44] at h1 ⊢
  simp [execOp, ho, h1, Instr.fieldAt, run_underlying' Tryz.underlying29, Instr.sureAddr, fieldPlace, Tryz.sizeOf27, Addr.add]
 ·have hc : w'.cell? ⟨b, off + j * 18 + 17, none⟩ = some (E 46) := by
   rw [keeps_cell hw hh.lt, h46]
   exact hh.cell j e he 17 e.l rfl
  have e2 := run_loadVar_cell (w := w') (ty := 27) (by kernel_rfl) hc
  simp only [V.den, h44] at h1 ⊢
  unfold execOp
  simp only [ho, h1, Instr.loadAt, Instr.sureAddr, Sem.run_bind, Sem.run_pure, Result.andThen_ok, e2]
 ·simp only [V.den, h42, h43] at h1 ⊢
  simp [execOp, ho, h1, Instr.fieldAt, run_underlying' Tryz.underlying29, Instr.sureAddr, fieldPlace, Tryz.sizeOf9, Addr.add]
 ·have hc : w'.cell? ⟨b, off + j * 18 + 1, none⟩ = some (.string e.v.t) := by
   rw [keeps_cell hw hh.lt]
   exact hh.cell j e he 1 (.string e.v.t) rfl
  have e2 := run_loadVar_cell (w := w') (ty := 9) (by kernel_rfl) hc
  have e3 : (xs 45).den L E = .string e.v.t := by simp only [xs, V.den, X.evS, h45]
  rw [e3]
  simp only [V.den, h43] at h1
  unfold execOp
  simp only [ho, h1, Instr.loadAt, Instr.sureAddr, Sem.run_bind, Sem.run_pure, Result.andThen_ok, e2]
theorem biRd_at {E0 : Nat -> Value} {b off : Nat} {fs : List El} {j n : Nat} (hl : SliceN (fs.getD j default).l n) (hn : n = (fs.getD j default).n) : biRd.at (rndE E0 41 (biR b off fs j)) = bif badI (fs.getD j default) then V.tup [it (-1), .ptr 10 0, .bool true, xi 20, .ptr (10 + 1) 0, xi 41] else V.tup [it 0, .ptr 10 0, .bool false, xi 20, .ptr (10 + 1) 0, .xi .i64 (.add .i64 (.at 41) (.int 1))] := by
 obtain ⟨E, hE⟩ : ∃ E, rndE E0 41 (biR b off fs j) = E := ⟨_, rfl⟩
 have h45 : E 45 = .string (fs.getD j default).v.t := hE ▸ rfl
 have h46 : E 46 = (fs.getD j default).l := hE ▸ rfl
 rw [hE]
 have d1 : X.evB E (.lt (.int 0) (.slen 46)) = decide (0 < (fs.getD j default).n) := by
  show decide ((0 : Int) < X.evI E (.slen 46)) = _
  rw [slen_ok hl h46, hn]
  exact decide_eq_decide.2 (by omega)
 have d2 : X.evB E (.lt (.int 1000) (.len (.at 45))) = decide (1000 < (fs.getD j default).v.t.size) := by
  show decide ((1000 : Int) < ((X.evS E (.at 45)).size : Int)) = _
  rw [show X.evS E (.at 45) = (fs.getD j default).v.t by simp only [X.evS, h45]]
  exact decide_eq_decide.2 (by omega)
 show (bif X.evB E (.lt (.int 0) (.slen 46)) then biRet.at E else bif X.evB E (.lt (.int 1000) (.len (.at 45))) then biRet.at E else biGo.at E) = _
 rw [d1, d2]
 unfold badI
 cases decide (0 < (fs.getD j default).n) <;> cases decide (1000 < (fs.getD j default).v.t.size) <;> rfl
theorem bi_loops {E : Nat -> Value} {M : Int} {w : World} {l : Value} {fs : List El} {r : Bool} (hE : ∀ i, (E i).oneCell' = true) (hE0 : E 0 = .int .i64 M) (hl : Lst w l fs) (hfs : ∀ f ∈ fs, SliceN f.l f.n) (h39 : E 39 = l) (h40 : E 40 = .bool r) (hr : r = fs.any badI) :
  ∀ x ∈ biLoops, x.Ok Tryz.prog E nG w (nOf Tryz.f12) (subOf (bodyOf Tryz.f12) 1) := by
 have hsl := hl.slice
 have hn3 : X.evB E (.lt (.int 3) (.slen 39)) = false -> fs.length <= 3 := fun h => by
  have h : decide ((3 : Int) < X.evI E (.slen 39)) = false := h
  rw [slen_ok hsl h39] at h
  have := of_decide_eq_false h
  omega
 have slj : ∀ j, SliceN (fs.getD j default).l (fs.getD j default).n := fun j => by
  cases hj : fs[j]? with
  | none => rw [List.getD_eq_getElem?_getD, hj]; exact def_slice
  | some f => rw [getD_of hj]; exact hfs f (List.mem_of_getElem? hj)
 obtain ⟨b, off, hh⟩ : ∃ b off, fs.length = 0 \/ ∃ c, l = .slice (some ⟨b, off, none⟩) fs.length c /\ Holds w b off fs := by
  rcases hl with ⟨rfl, _⟩ | ⟨b, off, c, h1, h2⟩
  ·exact ⟨0, 0, .inl rfl⟩
  ·exact ⟨b, off, .inr ⟨c, h1, h2⟩⟩
 have one : ∀ j, (biR b off fs j).all Value.oneCell' = true := fun j => by
  obtain ⟨a, c, h⟩ := slj j
  unfold biR
  rw [h]
  rfl
 have f41 : ∀ j, rndE E 41 (biR b off fs j) 41 = .int .i64 (j : Int) := fun j => rfl
 have f39 : ∀ j, rndE E 41 (biR b off fs j) 39 = l := fun j => h39
 have rnd : ∀ j, j < fs.length -> biF.Ok (rndE E 41 (biR b off fs j)) /\ Giv.Ok Tryz.prog (rndE E 41 (biR b off fs j)) nG w (VK M w) (nOf Tryz.f12) 2 (subOf (bodyOf Tryz.f12) 1) ⟨[], biO, []⟩ := fun j hj => by
  rcases hh with h0 | ⟨c, hlc, hh⟩
  ·omega
  have he := List.getElem?_eq_getElem hj
  refine ⟨⟨isSl_ok hsl (f39 j), isSl_ok (slj j) rfl, ?_, trivial⟩, giv_flat trivial (biO_ok (e := fs.getD j default) hh (by rw [getD_of he]; exact he) ((f39 j).trans hlc) (f41 j) rfl rfl rfl rfl rfl)⟩
  show decide (X.evI (rndE E 41 (biR b off fs j)) (.at 41) < X.evI (rndE E 41 (biR b off fs j)) (.slen 39)) = true
  rw [slen_ok hsl (f39 j), show X.evI (rndE E 41 (biR b off fs j)) (.at 41) = (j : Int) from rfl]
  exact decide_eq_true (by omega)
 have stp : ∀ j, j < fs.length -> fs.length <= 3 -> badI (fs.getD j default) = false -> ∃ vs, biRd.at (rndE E 41 (biR b off fs j)) = .tup (.int .i64 0 :: vs) /\ ∀ L, V.dens L (rndE E 41 (biR b off fs j)) vs = V.dens L (rndE E 41 (biR b off fs (j + 1))) biPat := fun j hj h3 hg => by
  refine ⟨_, (biRd_at (slj j) rfl).trans (by rw [hg]; rfl), fun L => ?_⟩
  have e1 : rndE E 41 (biR b off fs j) 20 = rndE E 41 (biR b off fs (j + 1)) 20 := rfl
  simp only [biPat, V.dens, V.den, xi, X.evI, f41, e1, wrap_s hj (show fs.length <= 1000 by omega)]
 have ned : ∀ L, V.dens L E biNeed = V.dens L (rndE E 41 (biR b off fs 0)) biPat := fun L => by
  have e1 : rndE E 41 (biR b off fs 0) 20 = E 20 := rfl
  simp only [biNeed, biPat, V.dens, V.den, xi, it, X.evI, f41, e1]
  rfl
 intro x hx
 simp only [biLoops, List.mem_cons, List.not_mem_nil, or_false] at hx
 rcases hx with rfl | rfl
 ·intro hp
  have h3 := hn3 hp.1
  have hb : fs.any badI = true := by
   have q : X.evB E (.at 40) = true := hp.2.1
   simp only [X.evB, h40] at q
   rw [<- hr]; exact q
  obtain ⟨K, hK, hbad, hgood⟩ := first_bad badI fs hb
  refine loop_rE (pre := [(.lt (.int 3) (.slen 39), false), (.at 40, true)]) (m := 41) Tryz.func12 (by kernel_rfl) (by kernel_rfl) run_bir run_bir K (biR b off fs) hE hE0 one (by decide) byH2_rows
   (fun k hk => (rnd k (by omega)).1) (rnd K hK).1 (fun k hk => (rnd k (by omega)).2) (rnd K hK).2 rfl rfl ned (fun k hk => stp k (by omega) h3 ?_) (by intro h; cases h) ⟨[.ptr 10 0, .bool true, xi 20, .ptr (10 + 1) 0, xi 41], (biRd_at (slj K) rfl).trans ?_, fun L => rfl⟩ hp
  ·rw [getD_of (List.getElem?_eq_getElem (show k < fs.length by omega))]
   exact hgood k _ hk (List.getElem?_eq_getElem (show k < fs.length by omega))
  ·rw [getD_of (List.getElem?_eq_getElem hK), hbad _ (List.getElem?_eq_getElem hK)]; rfl
 ·intro hp
  have h3 := hn3 hp.1
  have hb : fs.any badI = false := by
   have q : X.evB E (.at 40) = false := hp.2.1
   simp only [X.evB, h40] at q
   rw [<- hr]; exact q
  refine loop_rE (pre := [(.lt (.int 3) (.slen 39), false), (.at 40, false)]) (m := 41) Tryz.func12 (by kernel_rfl) (by kernel_rfl) run_bir run_bie fs.length (biR b off fs) hE hE0 one (by decide) byH2_rows
   (fun k hk => (rnd k hk).1) ⟨isSl_ok hsl (f39 _), ?_, trivial⟩ (fun k hk => (rnd k hk).2) (giv_flat trivial trivial) rfl rfl ned (fun k hk => stp k hk h3 ?_) (by intro h; cases h) ⟨[.ptr 10 0, .bool false, xi 20, .ptr (10 + 1) 0, xi 41], rfl, fun L => rfl⟩ hp
  ·show decide (X.evI (rndE E 41 (biR b off fs fs.length)) (.at 41) < X.evI (rndE E 41 (biR b off fs fs.length)) (.slen 39)) = false
   rw [slen_ok hsl (f39 _), show X.evI (rndE E 41 (biR b off fs fs.length)) (.at 41) = (fs.length : Int) from rfl]
   exact decide_eq_false (by omega)
  ·rw [getD_of (List.getElem?_eq_getElem hk)]
   exact List.any_eq_false.1 hb _ (List.getElem_mem hk) |> fun h => by simpa using h
theorem by_sub : Code.sub 1 (subOf (bodyOf Tryz.f12) 0) 1 = Code.sub 0 (bodyOf Tryz.f12) 1 := by kernel_rfl
def bigE (e : El) (fs : List El) : Bool := decide (1000 < e.v.t.size) || (decide (1000 < e.v.s.size) || (decide (1000 < e.v.m.s.size) || (decide (3 < e.n) || fs.any badI)))
def boR (b off : Nat) (es : List El) (fss : Nat -> List El) (k : Nat) : List Value := elR k b off (es.getD k default) ++ [.bool ((fss k).any badI)]
theorem boRd_at {E0 : Nat -> Value} {b off : Nat} {es : List El} {fss : Nat -> List El} {k : Nat} (hl : SliceN (es.getD k default).l (es.getD k default).n) : boRd.at (rndE E0 20 (boR b off es fss k)) = bif bigE (es.getD k default) (fss k) then V.tup [it (-1), .ptr 10 0, .bool true, xi 20] else V.tup [it 0, .ptr 10 0, .bool false, .xi .i64 (.add .i64 (.at 20) (.int 1))] := by
 obtain ⟨E, hE⟩ : ∃ E, rndE E0 20 (boR b off es fss k) = E := ⟨_, rfl⟩
 obtain ⟨e, he⟩ : ∃ e, es.getD k default = e := ⟨_, rfl⟩
 have hel : ∀ i, i < 18 -> E (22 + i) = (es.getD k default).enc.getD i (.bool false) := fun i hi => hE ▸ rnd_el i hi
 have h40 : E 40 = .bool ((fss k).any badI) := hE ▸ rnd_tl 0
 rw [hE]
 clear hE
 rw [he] at hl hel ⊢
 have h23 : E 23 = .string e.v.t := hel 1 (by decide)
 have h26 : E 26 = .string e.v.s := hel 4 (by decide)
 have h35 : E 35 = .string e.v.m.s := hel 13 (by decide)
 have h39 : E 39 = e.l := hel 17 (by decide)
 have dl : ∀ (i : Nat) (t : ByteArray), E i = .string t -> X.evB E (.lt (.int 1000) (.len (.at i))) = decide (1000 < t.size) := fun i t h => by
  show decide ((1000 : Int) < ((X.evS E (.at i)).size : Int)) = _
  rw [show X.evS E (.at i) = t by simp only [X.evS, h]]
  exact decide_eq_decide.2 (by omega)
 have d4 : X.evB E (.lt (.int 3) (.slen 39)) = decide (3 < e.n) := by
  show decide ((3 : Int) < X.evI E (.slen 39)) = _
  rw [slen_ok hl h39]
  exact decide_eq_decide.2 (by omega)
 have d5 : X.evB E (.at 40) = (fss k).any badI := by simp only [X.evB, h40]
 show (bif X.evB E (.lt (.int 1000) (.len (.at 23))) then boRet.at E else bif X.evB E (.lt (.int 1000) (.len (.at 26))) then boRet.at E else bif X.evB E (.lt (.int 1000) (.len (.at 35))) then boRet.at E else bif X.evB E (.lt (.int 3) (.slen 39)) then boRet.at E else bif X.evB E (.at 40) then boRet.at E else boGo.at E) = _
 rw [dl 23 _ h23, dl 26 _ h26, dl 35 _ h35, d4, d5]
 unfold bigE
 cases decide (1000 < e.v.t.size) <;> cases decide (1000 < e.v.s.size) <;> cases decide (1000 < e.v.m.s.size) <;> cases decide (3 < e.n) <;> cases (fss k).any badI <;> rfl
def byE (v : Vl) (l : Value) (r : Bool) : List Value := vE v l ++ [.bool r]
def bigL (es : List El) (fss : Nat -> List El) : Bool := (List.range es.length).any fun k => bigE (es.getD k default) (fss k)
theorem bo_loops {v : Vl} {l : Value} {es : List El} {fss : Nat -> List El} {w : World} {M : Int} (hl : Lst w l es) (hes : ∀ e ∈ es, SliceN e.l e.n) (hfs : ∀ k e, es[k]? = some e -> Lst w e.l (fss k) /\ ∀ f ∈ fss k, SliceN f.l f.n) :
  ∀ x ∈ boLoops, x.Ok Tryz.prog (envE (.int .i64 M :: byE v l (bigL es fss))) nG w (nOf Tryz.f12) (subOf (bodyOf Tryz.f12) 0) := by
 have hsl := hl.slice
 obtain ⟨E, hE⟩ : ∃ E, envE (.int .i64 M :: byE v l (bigL es fss)) = E := ⟨_, rfl⟩
 have hone : (byE v l (bigL es fss)).all Value.oneCell' = true := vE_one v l _ hsl _ rfl
 have hEo : ∀ i, (E i).oneCell' = true := hE ▸ envM_one hone
 have hE0 : E 0 = .int .i64 M := hE ▸ rfl
 have h18 : E 18 = l := hE ▸ rfl
 have h19 : E 19 = .bool (bigL es fss) := hE ▸ rfl
 rw [hE]
 clear hE hone
 have hn4 : X.evB E (.lt (.int 400) (.slen 18)) = false -> es.length <= 1000 := fun h => by
  have h : decide ((400 : Int) < X.evI E (.slen 18)) = false := h
  rw [slen_ok hsl h18] at h
  have := of_decide_eq_false h
  omega
 have slk : ∀ k, SliceN (es.getD k default).l (es.getD k default).n := fun k => by
  cases hk : es[k]? with
  | none => rw [List.getD_eq_getElem?_getD, hk]; exact def_slice
  | some e => rw [getD_of hk]; exact hes e (List.mem_of_getElem? hk)
 obtain ⟨b, off, hh⟩ : ∃ b off, es.length = 0 \/ ∃ c, l = .slice (some ⟨b, off, none⟩) es.length c /\ Holds w b off es := by
  rcases hl with ⟨rfl, _⟩ | ⟨b, off, c, h1, h2⟩
  ·exact ⟨0, 0, .inl rfl⟩
  ·exact ⟨b, off, .inr ⟨c, h1, h2⟩⟩
 have one : ∀ k, (boR b off es fss k).all Value.oneCell' = true := fun k => elR_one (slk k) rfl
 have f20 : ∀ k, rndE E 20 (boR b off es fss k) 20 = .int .i64 (k : Int) := fun k => rnd_k
 have f18 : ∀ k, rndE E 20 (boR b off es fss k) 18 = l := fun k => h18
 have rnd : ∀ k, k < es.length -> boF.Ok (rndE E 20 (boR b off es fss k)) /\ Giv.Ok Tryz.prog (rndE E 20 (boR b off es fss k)) nG w (VK M w) (nOf Tryz.f12) 1 (subOf (bodyOf Tryz.f12) 0) ⟨[], elO 18 20, [(1, biLoops)]⟩ := fun k hk => by
  rcases hh with h0 | ⟨c, hlc, hh⟩
  ·omega
  have he := List.getElem?_eq_getElem hk
  have hel : ∀ i, i < 18 -> rndE E 20 (boR b off es fss k) (22 + i) = (es.getD k default).enc.getD i (.bool false) := fun i hi => rnd_el i hi
  refine ⟨⟨isSl_ok hsl (f18 k), isSl_ok (slk k) (hel 17 (by decide)), ?_, trivial⟩, trivial, elO_ok (e := es.getD k default) hh (by rw [getD_of he]; exact he) ((f18 k).trans hlc) (f20 k) rnd_p hel, fun i xs a hm hs x hx => ?_⟩
  ·show decide (X.evI (rndE E 20 (boR b off es fss k)) (.at 20) < X.evI (rndE E 20 (boR b off es fss k)) (.slen 18)) = true
   rw [slen_ok hsl (f18 k), show X.evI (rndE E 20 (boR b off es fss k)) (.at 20) = (k : Int) by simp only [X.evI, f20]]
   exact decide_eq_true (by omega)
  ·simp only [List.mem_cons, List.not_mem_nil, or_false, Prod.mk.injEq] at hm
   obtain ⟨rfl, rfl⟩ := hm
   rw [by_sub] at hs
   have ha : a = subOf (bodyOf Tryz.f12) 1 := by unfold subOf; rw [hs]; rfl
   rw [ha]
   obtain ⟨q1, q2⟩ := hfs k _ he
   exact bi_loops (M := M) (rndE_one hEo (one k)) ((rndE_lt (by decide)).trans hE0) q1 q2 (by rw [<- getD_of he]; exact hel 17 (by decide)) (rnd_tl 0) rfl x hx
 have stp : ∀ k, k < es.length -> es.length <= 1000 -> bigE (es.getD k default) (fss k) = false -> ∃ vs, boRd.at (rndE E 20 (boR b off es fss k)) = .tup (.int .i64 0 :: vs) /\ ∀ L, V.dens L (rndE E 20 (boR b off es fss k)) vs = V.dens L (rndE E 20 (boR b off es fss (k + 1))) boPat := fun k hk h4 hg => by
  refine ⟨_, (boRd_at (slk k)).trans (by rw [hg]; rfl), fun L => ?_⟩
  simp only [boPat, V.dens, V.den, xi, X.evI, f20, wrap_s hk h4]
 have ned : ∀ L, V.dens L E boNeed = V.dens L (rndE E 20 (boR b off es fss 0)) boPat := fun L => by
  simp only [boNeed, boPat, V.dens, V.den, xi, it, X.evI, f20]
  rfl
 intro x hx
 simp only [boLoops, List.mem_cons, List.not_mem_nil, or_false] at hx
 rcases hx with rfl | rfl
 ·intro hp
  have h4 := hn4 hp.1
  have hb : bigL es fss = true := by
   have q : X.evB E (.at 19) = true := hp.2.1
   simpa only [X.evB, h19] using q
  obtain ⟨K, hK, hbad, hgood⟩ := first_bad (fun k => bigE (es.getD k default) (fss k)) (List.range es.length) hb
  rw [List.length_range] at hK
  have rg : ∀ k, k < es.length -> (List.range es.length)[k]? = some k := fun k hk => by rw [List.getElem?_range hk]
  refine loop_rE (pre := [(.lt (.int 400) (.slen 18), false), (.at 19, true)]) (m := 20) Tryz.func12 (by kernel_rfl) (by kernel_rfl) run_bor run_bor K (boR b off es fss) hEo hE0 one (by decide) byH_rows
   (fun k hk => (rnd k (by omega)).1) (rnd K hK).1 (fun k hk => (rnd k (by omega)).2) (rnd K hK).2 rfl rfl ned (fun k hk => stp k (by omega) h4 (hgood k k hk (rg k (by omega)))) (by intro h; cases h) ⟨[.ptr 10 0, .bool true, xi 20], (boRd_at (slk K)).trans ?_, fun L => rfl⟩ hp
  have hbK : bigE (es.getD K default) (fss K) = true := hbad K (rg K hK)
  rw [hbK]; rfl
 ·intro hp
  have h4 := hn4 hp.1
  have hb : bigL es fss = false := by
   have q : X.evB E (.at 19) = false := hp.2.1
   simpa only [X.evB, h19] using q
  refine loop_rE (pre := [(.lt (.int 400) (.slen 18), false), (.at 19, false)]) (m := 20) Tryz.func12 (by kernel_rfl) (by kernel_rfl) run_bor run_boe es.length (boR b off es fss) hEo hE0 one (by decide) byH_rows
   (fun k hk => (rnd k hk).1) ⟨isSl_ok hsl (f18 _), ?_, trivial⟩ (fun k hk => (rnd k hk).2) (giv_flat trivial trivial) rfl rfl ned (fun k hk => stp k hk h4 ?_) (by intro h; cases h) ⟨[.ptr 10 0, .bool false, xi 20], rfl, fun L => rfl⟩ hp
  ·show decide (X.evI (rndE E 20 (boR b off es fss es.length)) (.at 20) < X.evI (rndE E 20 (boR b off es fss es.length)) (.slen 18)) = false
   rw [slen_ok hsl (f18 _), show X.evI (rndE E 20 (boR b off es fss es.length)) (.at 20) = (es.length : Int) by simp only [X.evI, f20]]
   exact decide_eq_false (by omega)
  ·exact List.any_eq_false.1 hb k (List.mem_range.2 hk) |> fun h => by simpa using h
theorem xbeyond_is (v : Vl) (l : Value) (es : List El) (w : World) (hd : Deep w l es) (M : Int) : ∃ r : Bool, (∀ w', VK M w w' -> Calls Tryz.prog 12 #[v.val l] w' fun e w'' => e = .returned (.bool r) /\ Below w'.heap.size w' w'') /\ (r = false -> v.Sz /\ ∀ e ∈ es, e.Sz) := by
 obtain ⟨hl, hes⟩ := hd
 have hch : ∀ k : Nat, ∃ fs : List El, ∀ e : El, es[k]? = some e -> Lst w e.l fs /\ ∀ f ∈ fs, SliceN f.l f.n := fun k => by
  cases hk : es[k]? with
  | none => exact ⟨[], fun e h => by cases h⟩
  | some e =>
   obtain ⟨_, fs, h1, h2⟩ := hes e (List.mem_of_getElem? hk)
   exact ⟨fs, fun e' h => by cases h; exact ⟨h1, h2⟩⟩
 obtain ⟨fss, hfss⟩ := Classical.axiomOfChoice hch
 refine ⟨decide (2000 < v.t.size) || (decide (1000 < v.s.size) || (decide (1000 < v.m.s.size) || (decide (400 < es.length) || bigL es fss))), fun w' hw => ?_, fun hr => ?_⟩
 ·have hl' := hl.keep hw.2
  have hsl := hl'.slice
  obtain ⟨E, hE⟩ : ∃ E, envE (.int .i64 M :: byE v l (bigL es fss)) = E := ⟨_, rfl⟩
  have h2 : E 2 = .string v.t := hE ▸ rfl
  have h5 : E 5 = .string v.s := hE ▸ rfl
  have h14 : E 14 = .string v.m.s := hE ▸ rfl
  have h18 : E 18 = l := hE ▸ rfl
  have h19 : E 19 = .bool (bigL es fss) := hE ▸ rfl
  have dl : ∀ (n : Nat) (i : Nat) (t : ByteArray), E i = .string t -> X.evB E (.lt (.int n) (.len (.at i))) = decide (n < t.size) := fun n i t h => by
   show decide ((n : Int) < ((X.evS E (.at i)).size : Int)) = _
   rw [show X.evS E (.at i) = t by simp only [X.evS, h]]
   exact decide_eq_decide.2 (by omega)
  have d4 : X.evB E (.lt (.int 400) (.slen 18)) = decide (400 < es.length) := by
   show decide ((400 : Int) < X.evI E (.slen 18)) = _
   rw [slen_ok hsl h18]
   exact decide_eq_decide.2 (by omega)
  have d5 : X.evB E (.at 19) = bigL es fss := by simp only [X.evB, h19]
  have a3 : (byT.at E).den L0 E = .bool (decide (2000 < v.t.size) || (decide (1000 < v.s.size) || (decide (1000 < v.m.s.size) || (decide (400 < es.length) || bigL es fss)))) := by
   show (bif X.evB E (.lt (.int (2000 : Nat)) (.len (.at 2))) then V.bool true else bif X.evB E (.lt (.int (1000 : Nat)) (.len (.at 5))) then V.bool true else bif X.evB E (.lt (.int (1000 : Nat)) (.len (.at 14))) then V.bool true else bif X.evB E (.lt (.int 400) (.slen 18)) then V.bool true else bif X.evB E (.at 19) then V.bool true else .bool false : V).den L0 E = _
   rw [dl 2000 2 _ h2, dl 1000 5 _ h5, dl 1000 14 _ h14, d4, d5]
   cases decide (2000 < v.t.size) <;> cases decide (1000 < v.s.size) <;> cases decide (1000 < v.m.s.size) <;> cases decide (400 < es.length) <;> cases bigL es fss <;> rfl
  have hav : (V.dens L0 E [vaV 1 (.atom 18)]).toArray = #[v.val l] := hE ▸ rfl
  rw [<- hE] at a3 hav h18
  exact lp_rk Tryz.func12 (by kernel_rfl) run_by (giv_one trivial trivial (bo_loops hl' (fun e he => (hes e he).1) (fun k e he => ⟨((hfss k e he).1).keep hw.2, (hfss k e he).2⟩))) (vE_one v l _ hsl _ rfl) ⟨isSl_ok hsl h18, trivial⟩ rfl hav a3 hw.1
 ·simp only [Bool.or_eq_false_iff, decide_eq_false_iff_not] at hr
  obtain ⟨r1, r2, r3, r4, r5⟩ := hr
  refine ⟨⟨by omega, by omega, by omega⟩, fun e he => ?_⟩
  obtain ⟨k, hk⟩ := List.getElem?_of_mem he
  have hlt := (List.getElem?_eq_some_iff.1 hk).1
  have q := List.any_eq_false.1 r5 k (List.mem_range.2 hlt)
  rw [getD_of hk] at q
  have q : bigE e (fss k) = false := by simpa using q
  unfold bigE at q
  simp only [Bool.or_eq_false_iff, decide_eq_false_iff_not] at q
  exact ⟨⟨by omega, by omega, by omega⟩, (hes e he).1⟩

def cfA : List V := [.atom 1, .fn 37 []]
def cfTs : List Nat := [0, 1, 7, 4, 8]
def cfNeed : List V := [.atom 1, .fn 37 [], .xi .i64 (.slen 1), it 0, it 0]
def cfPat : List V := [.atom 1, .fn 37 [], .xi .i64 (.slen 1), it 0, xi 4]
def cfBad : List V := [.atom 1, .fn 37 [], .xi .i64 (.slen 1), xi 3]
def cfEnd : List V := [.atom 1, .fn 37 [], .xi .i64 (.slen 1), it 0]
def cfG : Giv := ⟨[⟨37, [vaV 6 (.atom 23)], [], xb 24⟩], elO 1 4, []⟩
def cfRet : Tree := .leaf (.tup [it (-1), .atom 1, .fn 37 [], .xi .i64 (.slen 1), xi 4, xi 4])
def cfGo : Tree := .leaf (.tup [it 0, .atom 1, .fn 37 [], .xi .i64 (.slen 1), it 0, .xi .i64 (.add .i64 (.at 4) (.int 1))])
def cfEx : Tree := .leaf (.tup [it 1, .atom 1, .fn 37 [], .xi .i64 (.slen 1), it 0, xi 4])
def cfRd : Tree := .node (.at 24) cfRet cfGo
def cfF : Fx := [(.isSl 1, true), (.isSl 23, true), (.lt (.at 4) (.slen 1), true)]
noncomputable def cfLoops : List LoopX := [⟨[(.at 2, true)], cfTs, cfNeed, h0, .ret, cfBad⟩, ⟨[(.at 2, false)], cfTs, cfNeed, h0, .exit 0, cfEnd⟩]
theorem run_cfr : chk (runRd Tryz.prog nG (fun _ => none) gd moT cfG 100 73 0 cfTs cfPat h0) cfRd cfF = true := by decide +kernel
theorem run_cfe : chk (runRd Tryz.prog nG (fun _ => none) gd moT ⟨[], [], []⟩ 100 73 0 cfTs cfPat h0) cfEx [(.isSl 1, true), (.lt (.at 4) (.slen 1), false)] = true := by decide +kernel
theorem run_cf : chk (runLp Tryz.prog nG (fun _ => none) gd moT ⟨[], [], [(0, cfLoops)]⟩ 100 73 cfA h0) (.node (.at 2) (.leaf (xi 3)) (.leaf (it (-1)))) [(.isSl 1, true)] = true := by decide +kernel
theorem run_cf0 : chk (runTr Tryz.prog nG (fun _ => none) gd moT [] 100 73 cfA h0) (.leaf (it (-1))) [(.isSl 1, true), (.lt (.int 0) (.slen 1), false)] = true := by decide +kernel
theorem run_cont : chk (runTr Tryz.prog nG (fun _ => none) gd moT [⟨73, cfA, [], xi 2⟩] 100 36 cfA h0) (.node (.lt (.at 2) (.int 0)) noT yesT) [(.isSl 1, true)] = true := by decide +kernel
theorem h0_rows : h0.rows.all (fun r => V.los 4 r.cells) = true := by decide +kernel
def cfE (l : Value) (lc : Bool) (K : Int) : List Value := [l, .bool lc, .int .i64 K]
def cfR (b off : Nat) (es : List El) (k : Nat) : List Value := elR k b off (es.getD k default) ++ [.bool (Lx.badE (es.getD k default))]
theorem cfR_one (b off : Nat) {es : List El} (hes : ∀ e ∈ es, e.Sz) (k : Nat) : (cfR b off es k).all Value.oneCell' = true := by
 refine elR_one ?_ rfl
 cases hk : es[k]? with
 | none => rw [List.getD_eq_getElem?_getD, hk]; exact def_slice
 | some e => rw [getD_of hk]; exact (hes e (List.mem_of_getElem? hk)).l
theorem cf_round {es : List El} {b off c : Nat} {lc : Bool} {K : Int} {w : World} {M : Int} (hh : Holds w b off es) (hes : ∀ e ∈ es, e.Sz) (k : Nat) (hk : k < es.length) :
  cfF.Ok (rndE (envE (.int .i64 M :: cfE (.slice (some ⟨b, off, none⟩) es.length c) lc K)) 4 (cfR b off es k)) /\ cfG.Ok Tryz.prog (rndE (envE (.int .i64 M :: cfE (.slice (some ⟨b, off, none⟩) es.length c) lc K)) 4 (cfR b off es k)) nG w (VK M w) (nOf Tryz.f73) 1 (subOf (bodyOf Tryz.f73) 0) := by
 have he : es[k]? = some es[k] := List.getElem?_eq_getElem hk
 have hsz := hes es[k] (List.getElem_mem hk)
 unfold cfR
 rw [getD_of he]
 obtain ⟨e, hee⟩ : ∃ e, es[k] = e := ⟨_, rfl⟩
 rw [hee] at he hsz ⊢
 obtain ⟨E, hE⟩ : ∃ E, rndE (envE (.int .i64 M :: cfE (.slice (some ⟨b, off, none⟩) es.length c) lc K)) 4 (elR k b off e ++ [.bool (Lx.badE e)]) = E := ⟨_, rfl⟩
 have h1 : E 1 = .slice (some ⟨b, off, none⟩) es.length c := by rw [<- hE, rndE_lt (by decide)]; rfl
 have h4 : E 4 = .int .i64 (k : Int) := hE ▸ rnd_k
 have h5 : E 5 = .pointer (some ⟨b, off + k * 18, none⟩) := hE ▸ rnd_p
 have hel : ∀ i, i < 18 -> E (6 + i) = e.enc.getD i (.bool false) := fun i hi => hE ▸ rnd_el i hi
 have h24 : E 24 = .bool (Lx.badE e) := hE ▸ rnd_tl 0
 have h23 : E 23 = e.l := hel 17 (by decide)
 rw [hE]
 refine ⟨⟨by simp only [X.evB, h1], isSl_ok hsz.l h23, ?_, trivial⟩, giv_flat ⟨?_, trivial⟩ (elO_ok hh he h1 h4 h5 hel)⟩
 ·simp only [X.evB, X.evI, h4, h1]
  exact decide_eq_true (by omega)
 ·refine okX_el (m := 6) rfl fk hel fun _ L w' hw => ?_
  have e2 : (xb 24).den L E = .bool (Lx.badE e) := by simp only [xb, V.den, X.evB, h24]
  rw [e2]
  exact xclos_is e.v hsz.v e.l e.n hsz.l w' M hw.1
theorem cfRd_at {E0 : Nat -> Value} {b off : Nat} {es : List El} {k : Nat} : cfRd.at (rndE E0 4 (cfR b off es k)) = bif Lx.badE (es.getD k default) then V.tup [it (-1), .atom 1, .fn 37 [], .xi .i64 (.slen 1), xi 4, xi 4] else V.tup [it 0, .atom 1, .fn 37 [], .xi .i64 (.slen 1), it 0, .xi .i64 (.add .i64 (.at 4) (.int 1))] := rfl
theorem cf_dens {E0 : Nat -> Value} {b off : Nat} {es : List El} {k : Nat} (hk : k < es.length) (hn : es.length <= 300) (L : Ex.Loc) :
  V.dens L (rndE E0 4 (cfR b off es k)) [.atom 1, .fn 37 [], .xi .i64 (.slen 1), it 0, .xi .i64 (.add .i64 (.at 4) (.int 1))] = V.dens L (rndE E0 4 (cfR b off es (k + 1))) cfPat := by
 have e1 : rndE E0 4 (cfR b off es k) 4 = .int .i64 (k : Int) := rnd_k
 have e2 : rndE E0 4 (cfR b off es (k + 1)) 4 = .int .i64 ((k + 1 : Nat) : Int) := rnd_k
 have e3 : ∀ j, rndE E0 4 (cfR b off es j) 1 = E0 1 := fun j => rfl
 simp only [cfPat, V.dens, V.den, xi, it, X.evI, e1, e2, e3, wrap_k hk hn]
theorem cf_need {E0 : Nat -> Value} {b off : Nat} {es : List El} (L : Ex.Loc) : V.dens L E0 cfNeed = V.dens L (rndE E0 4 (cfR b off es 0)) cfPat := by
 have e1 : rndE E0 4 (cfR b off es 0) 4 = .int .i64 ((0 : Nat) : Int) := rnd_k
 have e3 : rndE E0 4 (cfR b off es 0) 1 = E0 1 := rfl
 simp only [cfNeed, cfPat, V.dens, V.den, xi, it, X.evI, e1, e3]
 rfl
theorem cf_loops {es : List El} {b off c : Nat} {K : Nat} {w : World} {M : Int} (hh : Holds w b off es) (hes : ∀ e ∈ es, e.Sz) (hn : es.length <= 300) (hK : Lx.badL es = true -> K < es.length /\ (∀ x, es[K]? = some x -> Lx.badE x = true) /\ ∀ k x, k < K -> es[k]? = some x -> Lx.badE x = false) :
  ∀ x ∈ cfLoops, x.Ok Tryz.prog (envE (.int .i64 M :: cfE (.slice (some ⟨b, off, none⟩) es.length c) (Lx.badL es) K)) nG w (nOf Tryz.f73) (subOf (bodyOf Tryz.f73) 0) := by
 intro x hx
 simp only [cfLoops, List.mem_cons, List.not_mem_nil, or_false] at hx
 rcases hx with rfl | rfl
 ·intro hp
  obtain ⟨hKl, hbad, hgood⟩ := hK hp.1
  refine loop_rk (pre := [(.at 2, true)]) (m := 4) Tryz.func73 (by kernel_rfl) (by kernel_rfl) run_cfr run_cfr K (cfR b off es) rfl (cfR_one b off hes) (by decide) h0_rows
   (fun k hk => (cf_round hh hes k (by omega)).1) (cf_round hh hes K hKl).1 (fun k hk => (cf_round hh hes k (by omega)).2) (cf_round hh hes K hKl).2 rfl rfl cf_need (fun k hk => ⟨_, cfRd_at.trans ?_, cf_dens (by omega) hn⟩) (by intro h; cases h) ⟨[.atom 1, .fn 37 [], .xi .i64 (.slen 1), xi 4, xi 4], cfRd_at.trans ?_, fun L => ?_⟩ hp
  ·rw [getD_of (List.getElem?_eq_getElem (show k < es.length by omega)), hgood k _ hk (List.getElem?_eq_getElem (show k < es.length by omega))]
   rfl
  ·rw [getD_of (List.getElem?_eq_getElem hKl), hbad _ (List.getElem?_eq_getElem hKl)]
   rfl
  ·have e1 : rndE (envE (.int .i64 M :: cfE (.slice (some ⟨b, off, none⟩) es.length c) (Lx.badL es) K)) 4 (cfR b off es K) 4 = .int .i64 (K : Int) := rnd_k
   show V.dens L (rndE (envE (.int .i64 M :: cfE (.slice (some ⟨b, off, none⟩) es.length c) (Lx.badL es) K)) 4 (cfR b off es K)) [.atom 1, .fn 37 [], .xi .i64 (.slen 1), xi 4] = _
   simp only [cfBad, V.dens, V.den, xi, X.evI, e1]
   rfl
 ·intro hp
  have hb : Lx.badL es = false := hp.1
  refine loop_rk (pre := [(.at 2, false)]) (m := 4) Tryz.func73 (by kernel_rfl) (by kernel_rfl) run_cfr run_cfe es.length (cfR b off es) rfl (cfR_one b off hes) (by decide) h0_rows
   (fun k hk => (cf_round hh hes k hk).1) ⟨rfl, ?_, trivial⟩ (fun k hk => (cf_round hh hes k hk).2) (giv_flat trivial trivial) rfl rfl cf_need (fun k hk => ⟨_, cfRd_at.trans ?_, cf_dens hk hn⟩) (by intro h; cases h) ⟨[.atom 1, .fn 37 [], .xi .i64 (.slen 1), it 0, xi 4], rfl, fun L => rfl⟩ hp
  ·exact decide_eq_false (show ¬ ((es.length : Int) < (es.length : Int)) by omega)
  ·have hm := List.getElem?_eq_getElem hk
   rw [getD_of hm, (List.any_eq_false.1 hb _ (List.getElem_mem hk) |> fun h => by simpa using h : Lx.badE es[k] = false)]
   rfl
theorem xindex_is {es : List El} {K : Nat} (hK : Lx.badL es = true -> K < es.length /\ (∀ x, es[K]? = some x -> Lx.badE x = true) /\ ∀ k x, k < K -> es[k]? = some x -> Lx.badE x = false) (hes : ∀ e ∈ es, e.Sz) (hn : es.length <= 300) (l : Value) (w : World) (hl : Lst w l es) (M : Int) (hV : Vars M w) :
  Calls Tryz.prog 73 #[l, .func (.func 37) #[] #[]] w fun e w' => e = .returned (.int .i64 (bif Lx.badL es then (K : Int) else -1)) /\ Below w.heap.size w w' := by
 rcases hl with ⟨rfl, a, c, rfl⟩ | ⟨b, off, c, rfl, hh⟩
 ·have hn : X.evB (envE (.int .i64 M :: cfE (.slice a 0 c) false 0)) (.lt (.int 0) (.slen 1)) = false := by
   show decide ((0 : Int) < X.evI (envE (.int .i64 M :: cfE (.slice a 0 c) false 0)) (.slen 1)) = false
   rw [show X.evI (envE (.int .i64 M :: cfE (.slice a 0 c) false 0)) (.slen 1) = 0 from rfl]; rfl
  exact tree_rv (env := cfE (.slice a 0 c) false 0) run_cf0 trivial rfl ⟨rfl, hn, trivial⟩ rfl rfl rfl hV
 ·have a3 : ((Tree.node (.at 2) (.leaf (xi 3)) (.leaf (it (-1)))).at (envE (.int .i64 M :: cfE (.slice (some ⟨b, off, none⟩) es.length c) (Lx.badL es) K))).den L0 (envE (.int .i64 M :: cfE (.slice (some ⟨b, off, none⟩) es.length c) (Lx.badL es) K)) = .int .i64 (bif Lx.badL es then (K : Int) else -1) := by
   show (bif Lx.badL es then xi 3 else it (-1) : V).den L0 _ = _
   cases Lx.badL es <;> rfl
  exact lp_rk Tryz.func73 (by kernel_rfl) run_cf (giv_one trivial trivial (cf_loops hh hes hn hK)) rfl ⟨rfl, trivial⟩ rfl rfl a3 hV
theorem xcont_is {es : List El} (hes : ∀ e ∈ es, e.Sz) (v : Vl) (l : Value) (w : World) (hl : Lst w l es) (M : Int) : ListOk w M v l es.length (Lx.badL es) := by
 intro _ hn w1 hw1
 have hl1 := hl.keep hw1.2
 obtain ⟨K, hK⟩ : ∃ K : Nat, Lx.badL es = true -> K < es.length /\ (∀ x, es[K]? = some x -> Lx.badE x = true) /\ ∀ k x, k < K -> es[k]? = some x -> Lx.badE x = false := by
  cases hb : Lx.badL es with
  | false => exact ⟨0, fun h => by cases h⟩
  | true =>
   obtain ⟨K, h1, h2, h3⟩ := first_bad Lx.badE es hb
   exact ⟨K, fun _ => ⟨h1, h2, h3⟩⟩
 obtain ⟨r, hr⟩ : ∃ r : Int, (bif Lx.badL es then (K : Int) else -1) = r := ⟨_, rfl⟩
 have hd : decide (r < 0) = !Lx.badL es := by
  rw [<- hr]
  cases Lx.badL es
  ·rfl
  ·exact decide_eq_false (show ¬ ((K : Int) < 0) by omega)
 have hsl := hl1.slice
 have hone : ([l, .int .i64 r] : List Value).all Value.oneCell' = true := by
  obtain ⟨a, c, rfl⟩ := hsl
  rfl
 have hs : X.evB (envE (.int .i64 M :: [l, .int .i64 r])) (.isSl 1) = true := isSl_ok hsl rfl
 have c1 : CallX.Ok Tryz.prog (envE (.int .i64 M :: [l, .int .i64 r])) (VK M w1) ⟨73, cfA, [], xi 2⟩ :=
  ⟨rfl, fk, fun _ L w' hw => by
   have q := xindex_is hK hes hn l w' (hl1.keep hw.2) M hw.1
   rw [hr] at q
   exact q⟩
 have a3 : ((Tree.node (.lt (.at 2) (.int 0)) noT yesT).at (envE (.int .i64 M :: [l, .int .i64 r]))).den L0 (envE (.int .i64 M :: [l, .int .i64 r])) = .bool (Lx.badL es) := by
  show (bif decide (r < 0) then V.bool false else .bool true : V).den L0 _ = _
  rw [hd]
  cases Lx.badL es <;> rfl
 exact tree_rk run_cont ⟨c1, trivial⟩ hone ⟨hs, trivial⟩ rfl rfl a3 hw1.1
end Go.Proofs.YthoojcdjjecogaaGreatDoor
namespace Go.Proofs.YthoojcdjjecogaaGreatDoor
open Go Go.RowKit Go.Ex
namespace Mo
end Mo
theorem bad_no {e : El} (h : Lx.badE e = false) : e.v.k ≠ 6 /\ Lx.okV e.v e.n false = true := by
 unfold Lx.badE at h
 rw [Bool.or_eq_false_iff] at h
 exact ⟨of_decide_eq_false h.1, by simpa using h.2⟩
end Go.Proofs.YthoojcdjjecogaaGreatDoor
namespace Go.Proofs.YthoojcdjjecogaaGreatDoor
open Go Go.RowKit Go.Ex
theorem ok6_parts {v : Vl} {n : Nat} {lc : Bool} (h6 : v.k = 6) (h : Lx.okV v n lc = true) : n <= 300 /\ lc = false := by
 rw [okV_6 h6] at h
 simp only [Bool.and_eq_true, decide_eq_true_eq, Bool.not_eq_true'] at h
 exact h.1
section
variable {ops : Array Oper} {o : Oper} {a : Act} {w : World} {Q : Exit -> Act -> World -> Prop} {rest : List Oper}
end
section
variable {ops : Array Oper} {o : Oper} {a : Act} {w : World} {Q : Exit -> Act -> World -> Prop} {rest : List Oper}
end
theorem vk_trans {M : Int} {a b c : World} (h : VK M a b) (k : VK M b c) : VK M a c := ⟨k.1, h.2.trans k.2⟩
theorem pck_is (v : Vl) (hv : v.Sz) (l : Value) (es : List El) (hes : ∀ e ∈ es, e.Sz) (w : World) (hl : Lst w l es) (M : Int) {o : Bool} (ho : Lx.okV v es.length (Lx.badL es) = o) (w' : World) (hw : VK M w w') : Calls Tryz.prog 17 #[v.val l] w' fun e w'' => e = .returned (.int .i64 (chI o)) /\ Below w'.heap.size w' w'' := by
 have q := xcheck_is v hv l es.length hl.slice (Lx.badL es) w' M (xcont_is hes v l w' (hl.keep hw.2) M) hw.1
 rw [ho] at q
 exact q
theorem rck_is (v : Vl) (hv : v.Sz) (l : Value) (es : List El) (hes : ∀ e ∈ es, e.Sz) (w : World) (hl : Lst w l es) (M : Int) {o : Bool} (ho : Lx.okV v es.length (Lx.badL es) = o) (w' : World) (hw : VK M w w') : Calls Tryz.prog 18 #[v.val l] w' fun e w'' => e = .returned (.int .i64 (chI o)) /\ Below w'.heap.size w' w'' := by
 by_cases h6 : v.k = 6
 ·have q := xrck6_is v h6 l es w' (hl.keep hw.2) hes M hw.1
  rw [ho] at q
  exact q
 ·have q := xrck_is v hv l es.length hl.slice (Lx.badL es) h6 w' M hw.1
  rw [ho] at q
  exact q
end Go.Proofs.YthoojcdjjecogaaGreatDoor
namespace Go.Proofs.YthoojcdjjecogaaGreatDoor
open Go Go.RowKit Go.Ex
namespace Lx
def rsB (a b : Vl) : Bool := if a.k = b.k then (if a.k = 2 then a.b == b.b else if a.k = 3 then ((a.n == b.n) && (decide (a.s = b.s) && decide (a.S = b.S))) else if a.k = 4 then (equalM a.m b.m).1 && decide ((equalM a.m b.m).2 = 0) else decide (a.t = b.t)) else false
end Lx
theorem okV_bare {v : Vl} {n : Nat} {lc : Bool} (h : Lx.okV v n lc = true) : Lx.bareB v = true := by
 unfold Lx.okV at h
 simp only [Bool.and_eq_true] at h
 exact h.2.1
theorem bare_t {v : Vl} (h : Lx.bareB v = true) (h1 : v.k ≠ 1) (h5 : v.k ≠ 5) : v.t = ⟨#[]⟩ := by
 unfold Lx.bareB at h
 simp only [Bool.and_eq_true, Bool.or_eq_true, decide_eq_true_eq] at h
 exact (h.1.1.1.resolve_left (fun h => h.elim h1 h5))
theorem bare_b {v : Vl} (h : Lx.bareB v = true) (h2 : v.k ≠ 2) : v.b = false := by
 unfold Lx.bareB at h
 simp only [Bool.and_eq_true, Bool.or_eq_true, decide_eq_true_eq, Bool.not_eq_true'] at h
 exact h.1.1.2.resolve_left h2
theorem bare_d {v : Vl} (h : Lx.bareB v = true) (h3 : v.k ≠ 3) : v.n = false /\ v.s = ⟨#[]⟩ /\ v.S = 0 := by
 unfold Lx.bareB at h
 simp only [Bool.and_eq_true, Bool.or_eq_true, decide_eq_true_eq, Bool.not_eq_true'] at h
 have := h.1.2.resolve_left h3
 exact ⟨this.1.1, this.1.2, this.2⟩
theorem bare_m {v : Vl} (h : Lx.bareB v = true) (h4 : v.k ≠ 4) : v.m.k = 0 := by
 unfold Lx.bareB at h
 simp only [Bool.and_eq_true, Bool.or_eq_true, decide_eq_true_eq] at h
 have q := h.2.resolve_left h4
 simp only [Mo.list, Mo.nil, valsEq, Bool.and_eq_true] at q
 have := q.1
 simpa using this
theorem rsB_same {v u : Vl} {n m : Nat} {c d : Bool} (hv : Lx.okV v n c = true) (hu : Lx.okV u m d = true) (h6 : v.k ≠ 6) (q : Bool) : Lx.rsB v u = Lx.sameB v u q := by
 have bv := okV_bare hv
 have bu := okV_bare hu
 unfold Lx.rsB Lx.sameB
 by_cases hk : v.k = u.k
 ·rw [if_pos hk, if_pos hk, if_neg h6]
  by_cases h4 : v.k = 4
  ·rw [if_neg (by omega), if_neg (by omega), if_pos h4, if_pos h4]
  ·rw [if_neg h4, if_neg h4]
   by_cases h2 : v.k = 2
   ·rw [if_pos h2]
    have a1 := bare_t bv (by omega) (by omega)
    have a2 := bare_t bu (by omega) (by omega)
    obtain ⟨a3, a4, a5⟩ := bare_d bv (by omega)
    obtain ⟨b3, b4, b5⟩ := bare_d bu (by omega)
    rw [a1, a2, a3, a4, a5, b3, b4, b5]
    simp
   ·rw [if_neg h2]
    have a1 := bare_b bv h2
    have a2 := bare_b bu (by omega)
    by_cases h3 : v.k = 3
    ·rw [if_pos h3]
     have c1 := bare_t bv (by omega) (by omega)
     have c2 := bare_t bu (by omega) (by omega)
     rw [a1, a2, c1, c2]
     simp
    ·rw [if_neg h3]
     obtain ⟨a3, a4, a5⟩ := bare_d bv h3
     obtain ⟨b3, b4, b5⟩ := bare_d bu (by omega)
     rw [a1, a2, a3, a4, a5, b3, b4, b5]
     simp
 ·rw [if_neg hk, if_neg hk]
def rsmT : Tree := .node (.eq (.at 1) (.at 21)) (.node (.eq (.at 1) (.int 2)) (.node (.beq (.at 3) (.at 23)) yesT noT) (.node (.eq (.at 1) (.int 3)) (chT [(.beq (.at 4) (.at 24), true), (.seq (.at 5) (.at 25), true), (.eq (.at 6) (.at 26), true)] yesT noT)
 (.node (.eq (.at 1) (.int 4)) (.node (.eq (.at 41) (.int 0)) (.leaf (xb 40)) noT) (.node (.seq (.at 2) (.at 22)) yesT noT)))) noT
theorem run_rs : chk (runTr Tryz.prog nG (fun _ => none) gd moT [⟨81, [moV 7, moV 27], [], .tup [xb 40, xi 41]⟩] 100 42 [vaV 1 (.atom 18), vaV 21 (.atom 38)] h0) rsmT [(.isSl 18, true), (.isSl 38, true), (.eq (.at 1) (.int 6), false)] = true := by decide +kernel
theorem run_rs6 : chk (runTr Tryz.prog nG (fun _ => none) gd moT [] 100 42 [vaK 6 1 (.atom 18), vaV 21 (.atom 38)] h0) noT [(.isSl 18, true), (.isSl 38, true), (.eq (.int 6) (.at 21), false)] = true := by decide +kernel
theorem xrsame_is (v u : Vl) (hv : v.Sz) (hu : u.Sz) (l k : Value) (n m : Nat) (hl : SliceN l n) (hk : SliceN k m) (h6 : v.k ≠ 6) (w : World) (M : Int) (hV : Vars M w) : Calls Tryz.prog 42 #[v.val l, u.val k] w fun e w' => e = .returned (.bool (Lx.rsB v u)) /\ Below w.heap.size w w' := by
 refine tree_rv (env := prE v u l k 0 0 [.bool (equalM v.m u.m).1, .int .i64 (equalM v.m u.m).2]) run_rs
  ⟨⟨rfl, fk, fun _ L w hV => requalm_is v.m u.m hv.m hu.m _ _ rfl w M hV⟩, trivial⟩
  (prE_one hl hk _ _ _ rfl) ⟨isSl_ok hl rfl, isSl_ok hk rfl, decide_eq_false h6, trivial⟩ rfl rfl ?_ hV
 have e : rsmT.at (envE (.int .i64 M :: prE v u l k 0 0 [.bool (equalM v.m u.m).1, .int .i64 (equalM v.m u.m).2])) = bif decide (v.k = u.k) then bif decide (v.k = 2) then bif (v.b == u.b) then .bool true else .bool false else bif decide (v.k = 3) then bif (v.n == u.n) then bif decide (v.s = u.s) then bif decide (v.S = u.S) then .bool true else .bool false else .bool false else .bool false else
  bif decide (v.k = 4) then bif decide ((equalM v.m u.m).2 = 0) then xb 40 else .bool false else bif decide (v.t = u.t) then .bool true else .bool false else .bool false := rfl
 have e40 : (xb 40).den L0 (envE (.int .i64 M :: prE v u l k 0 0 [.bool (equalM v.m u.m).1, .int .i64 (equalM v.m u.m).2])) = .bool (equalM v.m u.m).1 := rfl
 rw [e]
 clear e
 unfold Lx.rsB
 by_cases h1 : v.k = u.k
 ·rw [decide_eq_true h1, cond_true, if_pos h1]
  by_cases h2 : v.k = 2
  ·rw [decide_eq_true h2, cond_true, if_pos h2]
   cases (v.b == u.b) <;> rfl
  ·rw [decide_eq_false h2, cond_false, if_neg h2]
   by_cases h3 : v.k = 3
   ·rw [decide_eq_true h3, cond_true, if_pos h3]
    cases (v.n == u.n) <;> cases decide (v.s = u.s) <;> cases decide (v.S = u.S) <;> rfl
   ·rw [decide_eq_false h3, cond_false, if_neg h3]
    by_cases h4 : v.k = 4
    ·rw [decide_eq_true h4, cond_true, if_pos h4]
     cases decide ((equalM v.m u.m).2 = 0) with
     | true => rw [cond_true, e40, Bool.and_true]
     | false => rw [cond_false, Bool.and_false]; rfl
    ·rw [decide_eq_false h4, cond_false, if_neg h4]
     cases decide (v.t = u.t) <;> rfl
 ·rw [decide_eq_false h1, cond_false, if_neg h1]; rfl
theorem xrsame6_no (v u : Vl) (l k : Value) (n m : Nat) (hl : SliceN l n) (hk : SliceN k m) (h6 : v.k = 6) (hu : u.k ≠ 6) (w : World) (M : Int) (hV : Vars M w) : Calls Tryz.prog 42 #[v.val l, u.val k] w fun e w' => e = .returned (.bool false) /\ Below w.heap.size w w' := by
 refine tree_rv (env := prE v u l k 0 0 []) run_rs6 trivial (prE_one hl hk _ _ _ rfl) ⟨isSl_ok hl rfl, isSl_ok hk rfl, decide_eq_false (fun h => hu (Eq.symm h)), trivial⟩ rfl ?_ rfl hV
 unfold vaK
 rw [show it 6 = V.int .i64 v.k by rw [h6]; rfl]
 rfl
end Go.Proofs.YthoojcdjjecogaaGreatDoor
