/-
  Part 42 of the proof: what functions return, and plain facts (Xsam6 Xprs). Conditions: each theorem names its own.
-/
import Derived.Test.YthoojcdjjecogaaGreatDoorG41
import Derived.Test.YthoojcdjjecogaaGreatDoorG13
set_option maxRecDepth 1000000
set_option maxHeartbeats 16000000
namespace Go.Proofs.YthoojcdjjecogaaGreatDoor
open Go Go.RowKit Go.Ex
theorem AllO_append {P : Program} {E : Nat -> Value} {B : World} : ∀ {l m : List OpX}, AllO P E B l -> AllO P E B m -> AllO P E B (l ++ m)
 | [], _, _, h => h
 | _ :: _, _, h, k => ⟨h.1, AllO_append h.2 k⟩
def elP (s i p q : Nat) : List OpX := [.idx 27 (.atom s) (xi i) (.atom p), .ld 29 (.atom p) (vaV q (.atom (q + 17)))]
theorem elP_ok {w : World} {E : Nat -> Value} {s i p q b off c k : Nat} {es : List El} {e : El} (hh : Holds w b off es) (he : es[k]? = some e) (hs : E s = .slice (some ⟨b, off, none⟩) es.length c) (hk : E i = .int .i64 (k : Int)) (hp : E p = .pointer (some ⟨b, off + k * 18, none⟩))
  (hel : ∀ i, i < 18 -> E (q + i) = e.enc.getD i (.bool false)) : AllO Tryz.prog E w (elP s i p q) := by
 have hlt : k < es.length := (List.getElem?_eq_some_iff.1 he).1
 have add_k : ((⟨b, off, none⟩ : Addr).add (k * 18)) = ⟨b, off + k * 18, none⟩ := by unfold Addr.add; split <;> simp_all
 refine ⟨⟨rfl, fun o ev x i L w' ho h1 h2 hw => ?_⟩, ⟨rfl, fun o ev x L w' ho h1 hw => ?_⟩, trivial⟩
 ·simp only [V.den, xi, X.evI, hs, hk, hp] at h1 h2 ⊢
  simp [execOp, ho, h1, h2, Instr.indexAt, asIntOf, run_underlying' Tryz.underlying27, Tryz.sizeOf29, add_k, hlt]
 ·have hr : w'.rangeAt b (off + k * 18) e.enc := (hh.keep hw).range he
  obtain ⟨d, hu, hd⟩ := aggT_und (t := 29) (n := 18) (by kernel_rfl)
  have e2 := run_loadVar_mid (P := Tryz.prog) w' b (off + k * 18) 29 e.enc d hr hu hd (aggT_size (t := 29) (n := 18) (by kernel_rfl))
  have e3 : (vaV q (.atom (q + 17))).den L E = e.val := vaV_den L E q e hel
  rw [e3]
  simp only [V.den, hp] at h1
  unfold execOp
  simp only [ho, h1, Instr.loadAt, Instr.sureAddr, Sem.run_bind, Sem.run_pure, Result.andThen_ok, e2]
  rfl
def prR (b off b' off' : Nat) (es fs : List El) (r : El -> El -> Bool) (k : Nat) : List Value := elR k b off (es.getD k default) ++ (elR k b' off' (fs.getD k default) ++ [.bool (r (es.getD k default) (fs.getD k default))])
theorem pr_k {E : Nat -> Value} {m b off b' off' : Nat} {es fs : List El} {r : El -> El -> Bool} {k : Nat} : rndE E m (prR b off b' off' es fs r k) m = .int .i64 (k : Int) := rnd_k
theorem pr_p {E : Nat -> Value} {m b off b' off' : Nat} {es fs : List El} {r : El -> El -> Bool} {k : Nat} : rndE E m (prR b off b' off' es fs r k) (m + 1) = .pointer (some ⟨b, off + k * 18, none⟩) := rnd_p
theorem pr_el {E : Nat -> Value} {m b off b' off' : Nat} {es fs : List El} {r : El -> El -> Bool} {k : Nat} (i : Nat) (hi : i < 18) : rndE E m (prR b off b' off' es fs r k) (m + 2 + i) = (es.getD k default).enc.getD i (.bool false) := rnd_el i hi
theorem pr_q {E : Nat -> Value} {m b off b' off' : Nat} {es fs : List El} {r : El -> El -> Bool} {k : Nat} : rndE E m (prR b off b' off' es fs r k) (m + 20 + 1) = .pointer (some ⟨b', off' + k * 18, none⟩) := (rnd_tl 1).trans rfl
theorem pr_fl {E : Nat -> Value} {m b off b' off' : Nat} {es fs : List El} {r : El -> El -> Bool} {k : Nat} (i : Nat) (hi : i < 18) : rndE E m (prR b off b' off' es fs r k) (m + 22 + i) = (fs.getD k default).enc.getD i (.bool false) := by
 have q := rnd_tl (E := E) (m := m) (k := k) (b := b) (off := off) (e := es.getD k default) (tl := elR k b' off' (fs.getD k default) ++ [.bool (r (es.getD k default) (fs.getD k default))]) (2 + i)
 rw [show m + 22 + i = m + 20 + (2 + i) by omega]
 refine q.trans ?_
 rw [Nat.add_comm]
 obtain ⟨e, he⟩ : ∃ e, fs.getD k default = e := ⟨_, rfl⟩
 rw [he]
 show (e.enc ++ _).getD i _ = _
 rw [List.getD_eq_getElem?_getD, List.getD_eq_getElem?_getD, List.getElem?_append_left (by rw [El.enc_length]; exact hi)]
 exact (List.getD_eq_getElem?_getD ..).symm
theorem pr_r {E : Nat -> Value} {m b off b' off' : Nat} {es fs : List El} {r : El -> El -> Bool} {k : Nat} : rndE E m (prR b off b' off' es fs r k) (m + 20 + 20) = .bool (r (es.getD k default) (fs.getD k default)) := (rnd_tl 20).trans rfl
theorem sl_get {es : List El} (hes : ∀ e ∈ es, e.Sz) (k : Nat) : SliceN (es.getD k default).l (es.getD k default).n := by
 cases hk : es[k]? with
 | none => rw [List.getD_eq_getElem?_getD, hk]; exact def_slice
 | some e => rw [getD_of hk]; exact (hes e (List.mem_of_getElem? hk)).l
theorem pr_one {b off b' off' : Nat} {es fs : List El} {r : El -> El -> Bool} (hes : ∀ e ∈ es, e.Sz) (hfs : ∀ e ∈ fs, e.Sz) (k : Nat) : (prR b off b' off' es fs r k).all Value.oneCell' = true :=
 elR_one (sl_get hes k) (elR_one (sl_get hfs k) rfl)
theorem lst_at {w : World} {l : Value} {es : List El} (hl : Lst w l es) : ∃ b off, es.length = 0 \/ ∃ c, l = .slice (some ⟨b, off, none⟩) es.length c /\ Holds w b off es := by
 rcases hl with ⟨rfl, _⟩ | ⟨b, off, c, h1, h2⟩
 ·exact ⟨0, 0, .inl rfl⟩
 ·exact ⟨b, off, .inr ⟨c, h1, h2⟩⟩
namespace Lx
def sameE (e f : El) : Bool := sameB e.v f.v false
def difL (es fs : List El) (n : Nat) : Bool := (List.range n).any fun k => !sameE (es.getD k default) (fs.getD k default)
def qL (es fs : List El) : Bool := decide (es.length = fs.length) && !difL es fs es.length
end Lx
theorem okX_el2 {E : Nat -> Value} {Gd : World -> Prop} {f : FuncId} {p q : Nat} {pre : Fx} {r : V} {e e' : El} (hr : r.ok 0 = true) (hf : ∃ fn, Tryz.prog.funcs[f]? = some fn /\ (fn.name == "runtime.NumGoroutine") = false /\ fn.body.isNone = false) (hel : ∀ i, i < 18 -> E (p + i) = e.enc.getD i (.bool false)) (hfl : ∀ i, i < 18 -> E (q + i) = e'.enc.getD i (.bool false))
  (h : ∀ L w', Gd w' -> Calls Tryz.prog f #[e.val, e'.val] w' fun x w'' => x = .returned (r.den L E) /\ Below w'.heap.size w' w'') : CallX.Ok Tryz.prog E Gd ⟨f, [vaV p (.atom (p + 17)), vaV q (.atom (q + 17))], pre, r⟩ := by
 refine ⟨ok_mono (by decide) r hr, hf, fun hp L w' hw => ?_⟩
 have e1 : V.dens L E [vaV p (.atom (p + 17)), vaV q (.atom (q + 17))] = [e.val, e'.val] := by rw [V.dens, V.dens, vaV_den L E p e hel, vaV_den L E q e' hfl]; rfl
 show Calls _ _ (V.dens L E [vaV p (.atom (p + 17)), vaV q (.atom (q + 17))]).toArray w' _
 rw [e1]
 refine (h L w' hw).mono fun x w'' hq => ⟨?_, hq.2⟩
 unfold PostX
 rw [hr]
 exact hq.1
def efA : List V := [.atom 1, .atom 2, .fn 41 []]
def efTs : List Nat := [0, 1, 2, 15, 16, 6, 17]
def efVs (x : V) : List V := [.atom 1, .atom 2, .fn 41 [], .atom 1, .xi .i64 (.slen 1), .bool false, x]
def efOut : List V := [.atom 1, .atom 2, .fn 41 [], .atom 1, .xi .i64 (.slen 1), .bool false]
def efG : Giv := ⟨[⟨41, [vaV 6 (.atom 23), vaV 26 (.atom 43)], [], xb 44⟩], elP 1 4 5 6 ++ elP 2 4 25 26, []⟩
def efRet : Tree := .leaf (.tup (it (-1) :: efVs (xi 4)))
def efGo : Tree := .leaf (.tup (it 0 :: efVs (.xi .i64 (.add .i64 (.at 4) (.int 1)))))
def efEx : Tree := .leaf (.tup (it 1 :: efVs (xi 4)))
def efRd : Tree := .node (.at 44) efGo efRet
def efF : Fx := [(.isSl 1, true), (.isSl 2, true), (.isSl 23, true), (.isSl 43, true), (.lt (.at 4) (.slen 1), true), (.eq (.slen 1) (.slen 2), true)]
noncomputable def efLoops : List LoopX := [⟨[(.eq (.slen 1) (.slen 2), true), (.at 3, true)], efTs, efVs (it 0), h0, .ret, efOut⟩, ⟨[(.eq (.slen 1) (.slen 2), true), (.at 3, false)], efTs, efVs (it 0), h0, .exit 0, efOut⟩]
theorem run_efr : chk (runRd Tryz.prog nG (fun _ => none) gd moT efG 100 80 0 efTs (efVs (xi 4)) h0) efRd efF = true := by decide +kernel
theorem run_efe : chk (runRd Tryz.prog nG (fun _ => none) gd moT ⟨[], [], []⟩ 100 80 0 efTs (efVs (xi 4)) h0) efEx [(.isSl 1, true), (.isSl 2, true), (.lt (.at 4) (.slen 1), false)] = true := by decide +kernel
def efT : Tree := .node (.eq (.slen 1) (.slen 2)) (.node (.at 3) noT yesT) noT
theorem run_ef : chk (runLp Tryz.prog nG (fun _ => none) gd moT ⟨[], [], [(0, efLoops)]⟩ 100 80 efA h0) efT [(.isSl 1, true), (.isSl 2, true)] = true := by decide +kernel
noncomputable def srH : H := ⟨(h0.rows.put 10 (some ⟨[it 6, xs 2, xb 3, xb 4, xs 5, xi 6] ++ moL 7 ++ [.atom 18], 29, 1, false, true, none⟩)).put (10 + 1) (some ⟨[it 6, xs 22, xb 23, xb 24, xs 25, xi 26] ++ moL 27 ++ [.atom 38], 29, 1, false, true, none⟩), 10 + 2, 1000000⟩
def srTs : List Nat := [2, 3, 4, 7]
def srVs (x : V) : List V := [.ptr 10 0, .ptr (10 + 1) 0, .bool false, x]
def srOut : List V := [.ptr 10 0, .ptr (10 + 1) 0, .bool false]
def srG : Giv := ⟨[⟨42, [vaV 47 (.atom 64), vaV 67 (.atom 84)], [], xb 85⟩], elP 18 45 46 47 ++ elP 38 45 66 67, []⟩
def srRd : Tree := .node (.at 85) (.leaf (.tup (it 0 :: srVs (.xi .i64 (.add .i64 (.at 45) (.int 1)))))) (.leaf (.tup (it (-1) :: srVs (xi 45))))
def srEx : Tree := .leaf (.tup (it 2 :: srVs (xi 45)))
def srF : Fx := [(.isSl 18, true), (.isSl 38, true), (.isSl 64, true), (.isSl 84, true), (.lt (.at 45) (.slen 18), true), (.lt (.at 45) (.slen 38), true)]
noncomputable def srLoops : List LoopX := [⟨[(.at 40, true)], srTs, srVs (it 0), srH, .ret, srOut⟩, ⟨[(.at 40, false)], srTs, srVs (it 0), srH, .exit 1, srOut⟩]
theorem run_srr : chk (runRd Tryz.prog nG (fun _ => none) gd moT srG 100 42 0 srTs (srVs (xi 45)) srH) srRd srF = true := by decide +kernel
theorem run_sre : chk (runRd Tryz.prog nG (fun _ => none) gd moT ⟨[], [], []⟩ 100 42 0 srTs (srVs (xi 45)) srH) srEx [(.isSl 18, true), (.isSl 38, true), (.lt (.at 45) (.slen 18), false)] = true := by decide +kernel
theorem run_srf : chk (runRd Tryz.prog nG (fun _ => none) gd moT ⟨[], [], []⟩ 100 42 0 srTs (srVs (xi 45)) srH) srEx [(.isSl 18, true), (.isSl 38, true), (.lt (.at 45) (.slen 18), true), (.lt (.at 45) (.slen 38), false)] = true := by decide +kernel
theorem srH_rows : srH.rows.all (fun r => V.los 45 r.cells) = true := by decide +kernel
def srT : Tree := .node (.at 40) noT (.node (.eq (.slen 18) (.slen 38)) yesT noT)
theorem run_sr : chk (runLp Tryz.prog nG (fun _ => none) gd moT ⟨[], [], [(0, srLoops)]⟩ 100 42 [vaK 6 1 (.atom 18), vaK 6 21 (.atom 38)] h0) srT [(.isSl 18, true), (.isSl 38, true)] = true := by decide +kernel
theorem h0_rows4 : h0.rows.all (fun r => V.los 4 r.cells) = true := by decide +kernel
theorem xsameE_is {e f : El} (he : e.Sz) (hf : f.Sz) (h6 : e.v.k ≠ 6) (w : World) (M : Int) (hV : Vars M w) : Calls Tryz.prog 41 #[e.val, f.val] w fun x w' => x = .returned (.bool (Lx.sameE e f)) /\ Below w.heap.size w w' :=
 xsame_is e.v f.v he.v hf.v e.l f.l e.n f.n he.l hf.l false w M (fun h => absurd h h6) hV
theorem xrsameE_is {e f : El} (he : e.Sz) (hf : f.Sz) (ge : Lx.badE e = false) (gf : Lx.badE f = false) (w : World) (M : Int) (hV : Vars M w) : Calls Tryz.prog 42 #[e.val, f.val] w fun x w' => x = .returned (.bool (Lx.sameE e f)) /\ Below w.heap.size w w' := by
 obtain ⟨h6, ok⟩ := bad_no ge
 obtain ⟨_, ok'⟩ := bad_no gf
 have q := xrsame_is e.v f.v he.v hf.v e.l f.l e.n f.n he.l hf.l h6 w M hV
 rw [rsB_same ok ok' h6 false] at q
 exact q
theorem good_get {es : List El} (hb : Lx.badL es = false) {k : Nat} (hk : k < es.length) : Lx.badE (es.getD k default) = false := by
 rw [getD_of (List.getElem?_eq_getElem hk)]
 exact List.any_eq_false.1 hb _ (List.getElem_mem hk) |> fun h => by simpa using h
theorem sz_get {es : List El} (hes : ∀ e ∈ es, e.Sz) {k : Nat} (hk : k < es.length) : (es.getD k default).Sz := by
 rw [getD_of (List.getElem?_eq_getElem hk)]
 exact hes _ (List.getElem_mem hk)
theorem at_get {es : List El} {k : Nat} (hk : k < es.length) : es[k]? = some (es.getD k default) := by
 rw [getD_of (List.getElem?_eq_getElem hk)]
 exact List.getElem?_eq_getElem hk
theorem dif_first {es fs : List El} {n : Nat} (h : Lx.difL es fs n = true) : ∃ K, K < n /\ Lx.sameE (es.getD K default) (fs.getD K default) = false /\ ∀ k, k < K -> Lx.sameE (es.getD k default) (fs.getD k default) = true := by
 obtain ⟨K, h1, h2, h3⟩ := first_bad (fun k => !Lx.sameE (es.getD k default) (fs.getD k default)) (List.range n) h
 rw [List.length_range] at h1
 refine ⟨K, h1, by simpa using h2 K (List.getElem?_range h1), fun k hk => by simpa using h3 k k hk (List.getElem?_range (by omega))⟩
theorem dif_none {es fs : List El} {n : Nat} (h : Lx.difL es fs n = false) {k : Nat} (hk : k < n) : Lx.sameE (es.getD k default) (fs.getD k default) = true := by
 have q := List.any_eq_false.1 h k (List.mem_range.2 hk)
 simpa using q
theorem efRd_at {E : Nat -> Value} {b off b' off' : Nat} {es fs : List El} {k : Nat} : efRd.at (rndE E 4 (prR b off b' off' es fs Lx.sameE k)) = bif Lx.sameE (es.getD k default) (fs.getD k default) then V.tup (it 0 :: efVs (.xi .i64 (.add .i64 (.at 4) (.int 1)))) else V.tup (it (-1) :: efVs (xi 4)) := by
 have q : X.evB (rndE E 4 (prR b off b' off' es fs Lx.sameE k)) (.at 44) = Lx.sameE (es.getD k default) (fs.getD k default) := by simp only [X.evB, show rndE E 4 (prR b off b' off' es fs Lx.sameE k) 44 = .bool (Lx.sameE (es.getD k default) (fs.getD k default)) from pr_r]
 show (bif X.evB (rndE E 4 (prR b off b' off' es fs Lx.sameE k)) (.at 44) then V.tup (it 0 :: efVs (.xi .i64 (.add .i64 (.at 4) (.int 1)))) else V.tup (it (-1) :: efVs (xi 4))) = _
 rw [q]
theorem ef_dens {E E' : Nat -> Value} {L : Ex.Loc} {x y : V} (h : ∀ i, i < 4 -> E i = E' i) (hx : x.den L E = y.den L E') : V.dens L E (efVs x) = V.dens L E' (efVs y) := by
 have h1 := h 1 (by decide)
 have h2 := h 2 (by decide)
 simp only [efVs, V.dens, V.den, X.evI, h1, h2, hx]
theorem xeqf_is {es fs : List El} (hes : ∀ e ∈ es, e.Sz) (hfs : ∀ e ∈ fs, e.Sz) (hb : Lx.badL es = false) (hn : es.length <= 300) (l k : Value) (w : World) (hl : Lst w l es) (hk : Lst w k fs) (M : Int) (hV : Vars M w) :
  Calls Tryz.prog 80 #[l, k, .func (.func 41) #[] #[]] w fun e w' => e = .returned (.bool (Lx.qL es fs)) /\ Below w.heap.size w w' := by
 have hsl := hl.slice
 have hsk := hk.slice
 obtain ⟨b, off, hh⟩ := lst_at hl
 obtain ⟨b', off', hh'⟩ := lst_at hk
 have hone : ([l, k, .bool (Lx.difL es fs es.length)] : List Value).all Value.oneCell' = true := by
  obtain ⟨a, c, rfl⟩ := hsl
  obtain ⟨a', c', rfl⟩ := hsk
  rfl
 obtain ⟨E, hE⟩ : ∃ E, envE (.int .i64 M :: [l, k, .bool (Lx.difL es fs es.length)]) = E := ⟨_, rfl⟩
 have hEo : ∀ i, (E i).oneCell' = true := hE ▸ envM_one hone
 have h1 : E 1 = l := hE ▸ rfl
 have h2 : E 2 = k := hE ▸ rfl
 have h3 : E 3 = .bool (Lx.difL es fs es.length) := hE ▸ rfl
 have hlen : X.evB E (.eq (.slen 1) (.slen 2)) = decide (es.length = fs.length) := by
  show decide (X.evI E (.slen 1) = X.evI E (.slen 2)) = _
  rw [slen_ok hsl h1, slen_ok hsk h2]
  exact decide_eq_decide.2 (by omega)
 have f1 : ∀ j, rndE E 4 (prR b off b' off' es fs Lx.sameE j) 1 = l := fun j => h1
 have f2 : ∀ j, rndE E 4 (prR b off b' off' es fs Lx.sameE j) 2 = k := fun j => h2
 have f4 : ∀ j, rndE E 4 (prR b off b' off' es fs Lx.sameE j) 4 = .int .i64 (j : Int) := fun j => pr_k
 have flt : ∀ j, X.evB (rndE E 4 (prR b off b' off' es fs Lx.sameE j)) (.lt (.at 4) (.slen 1)) = decide (j < es.length) := fun j => by
  show decide (X.evI _ (.at 4) < X.evI _ (.slen 1)) = _
  rw [slen_ok hsl (f1 j), show X.evI (rndE E 4 (prR b off b' off' es fs Lx.sameE j)) (.at 4) = (j : Int) by simp only [X.evI, f4]]
  exact decide_eq_decide.2 (by omega)
 have rnd : es.length = fs.length -> ∀ j, j < es.length -> efF.Ok (rndE E 4 (prR b off b' off' es fs Lx.sameE j)) /\ efG.Ok Tryz.prog (rndE E 4 (prR b off b' off' es fs Lx.sameE j)) nG w (VK M w) (nOf Tryz.f80) 1 (subOf (bodyOf Tryz.f80) 0) := fun hq j hj => by
  rcases hh with h0 | ⟨c, hlc, hh⟩
  ·omega
  rcases hh' with h0 | ⟨c', hlc', hh'⟩
  ·omega
  have hjf : j < fs.length := by omega
  have hel : ∀ i, i < 18 -> rndE E 4 (prR b off b' off' es fs Lx.sameE j) (6 + i) = (es.getD j default).enc.getD i (.bool false) := fun i hi => pr_el i hi
  have hfl : ∀ i, i < 18 -> rndE E 4 (prR b off b' off' es fs Lx.sameE j) (26 + i) = (fs.getD j default).enc.getD i (.bool false) := fun i hi => pr_fl i hi
  refine ⟨⟨isSl_ok hsl (f1 j), isSl_ok hsk (f2 j), isSl_ok (sl_get hes j) (hel 17 (by decide)), isSl_ok (sl_get hfs j) (hfl 17 (by decide)), (flt j).trans (decide_eq_true hj), ?_, trivial⟩, giv_flat ⟨?_, trivial⟩ (AllO_append (elP_ok hh (at_get hj) ((f1 j).trans hlc) (f4 j) pr_p hel) (elP_ok hh' (at_get hjf) ((f2 j).trans hlc') (f4 j) pr_q hfl))⟩
  ·show decide (X.evI _ (.slen 1) = X.evI _ (.slen 2)) = true
   rw [slen_ok hsl (f1 j), slen_ok hsk (f2 j)]
   exact decide_eq_true (by omega)
  ·refine okX_el2 (p := 6) (q := 26) rfl fk hel hfl fun L w' hw => ?_
   rw [show (xb 44).den L (rndE E 4 (prR b off b' off' es fs Lx.sameE j)) = .bool (Lx.sameE (es.getD j default) (fs.getD j default)) by simp only [xb, V.den, X.evB, show rndE E 4 (prR b off b' off' es fs Lx.sameE j) 44 = .bool (Lx.sameE (es.getD j default) (fs.getD j default)) from pr_r]]
   exact xsameE_is (sz_get hes hj) (sz_get hfs hjf) (bad_no (good_get hb hj)).1 w' M hw.1
 have stp : ∀ j, j < es.length -> Lx.sameE (es.getD j default) (fs.getD j default) = true -> ∃ vs, efRd.at (rndE E 4 (prR b off b' off' es fs Lx.sameE j)) = .tup (.int .i64 0 :: vs) /\ ∀ L, V.dens L (rndE E 4 (prR b off b' off' es fs Lx.sameE j)) vs = V.dens L (rndE E 4 (prR b off b' off' es fs Lx.sameE (j + 1))) (efVs (xi 4)) := fun j hj hs => by
  refine ⟨_, efRd_at.trans (by rw [hs]; rfl), fun L => ef_dens (fun i hi => (rndE_lt hi).trans (rndE_lt hi).symm) ?_⟩
  simp only [V.den, xi, X.evI, f4, wrap_k hj hn]
 have ned : ∀ L, V.dens L E (efVs (it 0)) = V.dens L (rndE E 4 (prR b off b' off' es fs Lx.sameE 0)) (efVs (xi 4)) := fun L => ef_dens (fun i hi => (rndE_lt hi).symm) (by simp only [V.den, xi, it, X.evI, f4]; rfl)
 have fin : ∀ j, ∀ L, V.dens L (rndE E 4 (prR b off b' off' es fs Lx.sameE j)) ((efVs (xi 4)).take efOut.length) = V.dens L E efOut := fun j L => by
  have g1 := f1 j
  have g2 := f2 j
  rw [<- h1] at g1
  rw [<- h2] at g2
  show V.dens L _ [.atom 1, .atom 2, .fn 41 [], .atom 1, .xi .i64 (.slen 1), .bool false] = _
  simp only [efOut, V.dens, V.den, X.evI, g1, g2]
 have loops : ∀ x ∈ efLoops, x.Ok Tryz.prog E nG w (nOf Tryz.f80) (subOf (bodyOf Tryz.f80) 0) := by
  intro x hx
  simp only [efLoops, List.mem_cons, List.not_mem_nil, or_false] at hx
  rcases hx with rfl | rfl
  ·intro hp
   have hq : es.length = fs.length := of_decide_eq_true (hlen ▸ hp.1)
   have hd : Lx.difL es fs es.length = true := by
    have q : X.evB E (.at 3) = true := hp.2.1
    simpa only [X.evB, h3] using q
   obtain ⟨K, hK, hbad, hgood⟩ := dif_first hd
   refine loop_rE (pre := [(.eq (.slen 1) (.slen 2), true), (.at 3, true)]) (m := 4) Tryz.func80 (by kernel_rfl) (by kernel_rfl) run_efr run_efr K (prR b off b' off' es fs Lx.sameE) hEo (hE ▸ rfl) (pr_one hes hfs) (by decide) h0_rows4
    (fun j hj => (rnd hq j (by omega)).1) (rnd hq K hK).1 (fun j hj => (rnd hq j (by omega)).2) (rnd hq K hK).2 rfl rfl ned (fun j hj => stp j (by omega) (hgood j hj)) (by intro h; cases h) ⟨efVs (xi 4), efRd_at.trans (by rw [hbad]; rfl), fin K⟩ hp
  ·intro hp
   have hq : es.length = fs.length := of_decide_eq_true (hlen ▸ hp.1)
   have hd : Lx.difL es fs es.length = false := by
    have q : X.evB E (.at 3) = false := hp.2.1
    simpa only [X.evB, h3] using q
   refine loop_rE (pre := [(.eq (.slen 1) (.slen 2), true), (.at 3, false)]) (m := 4) Tryz.func80 (by kernel_rfl) (by kernel_rfl) run_efr run_efe es.length (prR b off b' off' es fs Lx.sameE) hEo (hE ▸ rfl) (pr_one hes hfs) (by decide) h0_rows4
    (fun j hj => (rnd hq j hj).1) ⟨isSl_ok hsl (f1 _), isSl_ok hsk (f2 _), (flt _).trans (decide_eq_false (Nat.lt_irrefl _)), trivial⟩ (fun j hj => (rnd hq j hj).2) (giv_flat trivial trivial) rfl rfl ned (fun j hj => stp j hj (dif_none hd hj)) (by intro h; cases h) ⟨efVs (xi 4), rfl, fin es.length⟩ hp
 have a3 : (efT.at E).den L0 E = .bool (Lx.qL es fs) := by
  show (bif X.evB E (.eq (.slen 1) (.slen 2)) then bif X.evB E (.at 3) then V.bool false else .bool true else .bool false : V).den L0 E = _
  rw [hlen, show X.evB E (.at 3) = Lx.difL es fs es.length by simp only [X.evB, h3]]
  unfold Lx.qL
  cases decide (es.length = fs.length) <;> cases Lx.difL es fs es.length <;> rfl
 rw [<- hE] at a3 loops h1 h2
 exact lp_rk Tryz.func80 (by kernel_rfl) run_ef (giv_one trivial trivial loops) hone ⟨isSl_ok hsl h1, isSl_ok hsk h2, trivial⟩ rfl rfl a3 hV
theorem srRd_at {E : Nat -> Value} {b off b' off' : Nat} {es fs : List El} {k : Nat} : srRd.at (rndE E 45 (prR b off b' off' es fs Lx.sameE k)) = bif Lx.sameE (es.getD k default) (fs.getD k default) then V.tup (it 0 :: srVs (.xi .i64 (.add .i64 (.at 45) (.int 1)))) else V.tup (it (-1) :: srVs (xi 45)) := by
 have q : X.evB (rndE E 45 (prR b off b' off' es fs Lx.sameE k)) (.at 85) = Lx.sameE (es.getD k default) (fs.getD k default) := by simp only [X.evB, show rndE E 45 (prR b off b' off' es fs Lx.sameE k) 85 = .bool (Lx.sameE (es.getD k default) (fs.getD k default)) from pr_r]
 show (bif X.evB (rndE E 45 (prR b off b' off' es fs Lx.sameE k)) (.at 85) then V.tup (it 0 :: srVs (.xi .i64 (.add .i64 (.at 45) (.int 1)))) else V.tup (it (-1) :: srVs (xi 45))) = _
 rw [q]
theorem qL_eq (es fs : List El) : Lx.qL es fs = (!Lx.difL es fs (min es.length fs.length) && decide (es.length = fs.length)) := by
 unfold Lx.qL
 by_cases h : es.length = fs.length
 ·rw [decide_eq_true h, <- h, Nat.min_self, Bool.and_comm]
 ·rw [decide_eq_false h, Bool.and_false]; rfl
theorem xrsame6_is (v u : Vl) (h6 : v.k = 6) (g6 : u.k = 6) {es fs : List El} (hes : ∀ e ∈ es, e.Sz) (hfs : ∀ e ∈ fs, e.Sz) (hb : Lx.badL es = false) (hbf : Lx.badL fs = false) (hn : es.length <= 300) (l k : Value) (w : World) (hl : Lst w l es) (hk : Lst w k fs) (M : Int) (hV : Vars M w) :
  Calls Tryz.prog 42 #[v.val l, u.val k] w fun e w' => e = .returned (.bool (Lx.qL es fs)) /\ Below w.heap.size w w' := by
 have hsl := hl.slice
 have hsk := hk.slice
 obtain ⟨b, off, hh⟩ := lst_at hl
 obtain ⟨b', off', hh'⟩ := lst_at hk
 obtain ⟨d, hd⟩ : ∃ d, Lx.difL es fs (min es.length fs.length) = d := ⟨_, rfl⟩
 have hone : (prE v u l k 0 0 [.bool d]).all Value.oneCell' = true := prE_one hsl hsk _ _ _ rfl
 obtain ⟨E, hE⟩ : ∃ E, envE (.int .i64 M :: prE v u l k 0 0 [.bool d]) = E := ⟨_, rfl⟩
 have hEo : ∀ i, (E i).oneCell' = true := hE ▸ envM_one hone
 have h1 : E 18 = l := hE ▸ rfl
 have h2 : E 38 = k := hE ▸ rfl
 have h3 : E 40 = .bool d := hE ▸ rfl
 have f1 : ∀ j, rndE E 45 (prR b off b' off' es fs Lx.sameE j) 18 = l := fun j => h1
 have f2 : ∀ j, rndE E 45 (prR b off b' off' es fs Lx.sameE j) 38 = k := fun j => h2
 have f4 : ∀ j, rndE E 45 (prR b off b' off' es fs Lx.sameE j) 45 = .int .i64 (j : Int) := fun j => pr_k
 have at45 : ∀ j, X.evI (rndE E 45 (prR b off b' off' es fs Lx.sameE j)) (.at 45) = (j : Int) := fun j => by simp only [X.evI, f4]
 have fl1 : ∀ j, X.evB (rndE E 45 (prR b off b' off' es fs Lx.sameE j)) (.lt (.at 45) (.slen 18)) = decide (j < es.length) := fun j => by
  show decide (X.evI _ (.at 45) < X.evI _ (.slen 18)) = _
  rw [slen_ok hsl (f1 j), at45]
  exact decide_eq_decide.2 (by omega)
 have fl2 : ∀ j, X.evB (rndE E 45 (prR b off b' off' es fs Lx.sameE j)) (.lt (.at 45) (.slen 38)) = decide (j < fs.length) := fun j => by
  show decide (X.evI _ (.at 45) < X.evI _ (.slen 38)) = _
  rw [slen_ok hsk (f2 j), at45]
  exact decide_eq_decide.2 (by omega)
 have rnd : ∀ j, j < es.length -> j < fs.length -> srF.Ok (rndE E 45 (prR b off b' off' es fs Lx.sameE j)) /\ srG.Ok Tryz.prog (rndE E 45 (prR b off b' off' es fs Lx.sameE j)) nG w (VK M w) (nOf Tryz.f42) 1 (subOf (bodyOf Tryz.f42) 0) := fun j hj hjf => by
  rcases hh with h0 | ⟨c, hlc, hh⟩
  ·omega
  rcases hh' with h0 | ⟨c', hlc', hh'⟩
  ·omega
  have hel : ∀ i, i < 18 -> rndE E 45 (prR b off b' off' es fs Lx.sameE j) (47 + i) = (es.getD j default).enc.getD i (.bool false) := fun i hi => pr_el i hi
  have hfl : ∀ i, i < 18 -> rndE E 45 (prR b off b' off' es fs Lx.sameE j) (67 + i) = (fs.getD j default).enc.getD i (.bool false) := fun i hi => pr_fl i hi
  refine ⟨⟨isSl_ok hsl (f1 j), isSl_ok hsk (f2 j), isSl_ok (sl_get hes j) (hel 17 (by decide)), isSl_ok (sl_get hfs j) (hfl 17 (by decide)), (fl1 j).trans (decide_eq_true hj), (fl2 j).trans (decide_eq_true hjf), trivial⟩, giv_flat ⟨?_, trivial⟩ (AllO_append (elP_ok hh (at_get hj) ((f1 j).trans hlc) (f4 j) pr_p hel) (elP_ok hh' (at_get hjf) ((f2 j).trans hlc') (f4 j) pr_q hfl))⟩
  refine okX_el2 (p := 47) (q := 67) rfl fk hel hfl fun L w' hw => ?_
  rw [show (xb 85).den L (rndE E 45 (prR b off b' off' es fs Lx.sameE j)) = .bool (Lx.sameE (es.getD j default) (fs.getD j default)) by simp only [xb, V.den, X.evB, show rndE E 45 (prR b off b' off' es fs Lx.sameE j) 85 = .bool (Lx.sameE (es.getD j default) (fs.getD j default)) from pr_r]]
  exact xrsameE_is (sz_get hes hj) (sz_get hfs hjf) (good_get hb hj) (good_get hbf hjf) w' M hw.1
 have stp : ∀ j, j < es.length -> Lx.sameE (es.getD j default) (fs.getD j default) = true -> ∃ vs, srRd.at (rndE E 45 (prR b off b' off' es fs Lx.sameE j)) = .tup (.int .i64 0 :: vs) /\ ∀ L, V.dens L (rndE E 45 (prR b off b' off' es fs Lx.sameE j)) vs = V.dens L (rndE E 45 (prR b off b' off' es fs Lx.sameE (j + 1))) (srVs (xi 45)) := fun j hj hs => by
  refine ⟨_, srRd_at.trans (by rw [hs]; rfl), fun L => ?_⟩
  simp only [srVs, V.dens, V.den, xi, X.evI, f4, wrap_k hj hn]
 have ned : ∀ L, V.dens L E (srVs (it 0)) = V.dens L (rndE E 45 (prR b off b' off' es fs Lx.sameE 0)) (srVs (xi 45)) := fun L => by
  simp only [srVs, V.dens, V.den, xi, it, X.evI, f4]
  rfl
 have loops : ∀ x ∈ srLoops, x.Ok Tryz.prog E nG w (nOf Tryz.f42) (subOf (bodyOf Tryz.f42) 0) := by
  intro x hx
  simp only [srLoops, List.mem_cons, List.not_mem_nil, or_false] at hx
  rcases hx with rfl | rfl
  ·intro hp
   have hd' : Lx.difL es fs (min es.length fs.length) = true := by
    have q : X.evB E (.at 40) = true := hp.1
    rw [hd]
    simpa only [X.evB, h3] using q
   obtain ⟨K, hK, hbad, hgood⟩ := dif_first hd'
   refine loop_rE (pre := [(.at 40, true)]) (m := 45) Tryz.func42 (by kernel_rfl) (by kernel_rfl) run_srr run_srr K (prR b off b' off' es fs Lx.sameE) hEo (hE ▸ rfl) (pr_one hes hfs) (by decide) srH_rows
    (fun j hj => (rnd j (by omega) (by omega)).1) (rnd K (by omega) (by omega)).1 (fun j hj => (rnd j (by omega) (by omega)).2) (rnd K (by omega) (by omega)).2 rfl rfl ned (fun j hj => stp j (by omega) (hgood j hj)) (by intro h; cases h) ⟨srVs (xi 45), srRd_at.trans (by rw [hbad]; rfl), fun L => rfl⟩ hp
  ·intro hp
   have hd' : Lx.difL es fs (min es.length fs.length) = false := by
    have q : X.evB E (.at 40) = false := hp.1
    rw [hd]
    simpa only [X.evB, h3] using q
   by_cases hle : es.length <= fs.length
   ·have hm : min es.length fs.length = es.length := Nat.min_eq_left hle
    rw [hm] at hd'
    refine loop_rE (pre := [(.at 40, false)]) (m := 45) Tryz.func42 (by kernel_rfl) (by kernel_rfl) run_srr run_sre es.length (prR b off b' off' es fs Lx.sameE) hEo (hE ▸ rfl) (pr_one hes hfs) (by decide) srH_rows
     (fun j hj => (rnd j hj (by omega)).1) ⟨isSl_ok hsl (f1 _), isSl_ok hsk (f2 _), (fl1 _).trans (decide_eq_false (Nat.lt_irrefl _)), trivial⟩ (fun j hj => (rnd j hj (by omega)).2) (giv_flat trivial trivial) rfl rfl ned (fun j hj => stp j hj (dif_none hd' hj)) (by intro h; cases h) ⟨srVs (xi 45), rfl, fun L => rfl⟩ hp
   ·have hm : min es.length fs.length = fs.length := Nat.min_eq_right (by omega)
    rw [hm] at hd'
    refine loop_rE (pre := [(.at 40, false)]) (m := 45) Tryz.func42 (by kernel_rfl) (by kernel_rfl) run_srr run_srf fs.length (prR b off b' off' es fs Lx.sameE) hEo (hE ▸ rfl) (pr_one hes hfs) (by decide) srH_rows
     (fun j hj => (rnd j (by omega) hj).1) ⟨isSl_ok hsl (f1 _), isSl_ok hsk (f2 _), (fl1 _).trans (decide_eq_true (by omega)), (fl2 _).trans (decide_eq_false (Nat.lt_irrefl _)), trivial⟩ (fun j hj => (rnd j (by omega) hj).2) (giv_flat trivial trivial) rfl rfl ned (fun j hj => stp j (by omega) (dif_none hd' hj)) (by intro h; cases h) ⟨srVs (xi 45), rfl, fun L => rfl⟩ hp
 have hlen : X.evB E (.eq (.slen 18) (.slen 38)) = decide (es.length = fs.length) := by
  show decide (X.evI E (.slen 18) = X.evI E (.slen 38)) = _
  rw [slen_ok hsl h1, slen_ok hsk h2]
  exact decide_eq_decide.2 (by omega)
 have a3 : (srT.at E).den L0 E = .bool (Lx.qL es fs) := by
  show (bif X.evB E (.at 40) then V.bool false else bif X.evB E (.eq (.slen 18) (.slen 38)) then .bool true else .bool false : V).den L0 E = _
  rw [hlen, show X.evB E (.at 40) = d by simp only [X.evB, h3], qL_eq, hd]
  cases decide (es.length = fs.length) <;> cases d <;> rfl
 have hav : (V.dens L0 E [vaK 6 1 (.atom 18), vaK 6 21 (.atom 38)]).toArray = #[v.val l, u.val k] := by
  have e6 : it 6 = V.int .i64 v.k := by rw [h6]; rfl
  have e6' : it 6 = V.int .i64 u.k := by rw [g6]; rfl
  have a : vaK 6 1 (.atom 18) = vl (.int .i64 v.k) (xs 2) (xb 3) (xb 4) (xs 5) (xi 6) (moL 7) (.atom 18) := by unfold vaK; rw [e6]
  have a' : vaK 6 21 (.atom 38) = vl (.int .i64 u.k) (xs 22) (xb 23) (xb 24) (xs 25) (xi 26) (moL 27) (.atom 38) := by unfold vaK; rw [e6']
  rw [a, a', <- hE]
  rfl
 rw [<- hE] at a3 loops h1 h2 hav
 exact lp_rk Tryz.func42 (by kernel_rfl) run_sr (giv_one trivial trivial loops) hone ⟨isSl_ok hsl h1, isSl_ok hsk h2, trivial⟩ rfl hav a3 hV
end Go.Proofs.YthoojcdjjecogaaGreatDoor
namespace Go.Proofs.YthoojcdjjecogaaGreatDoor
open Go Go.RowKit Go.Ex
def rqlX : List CallX := [⟨18, [vaV 1 (.atom 18)], [], xi 19⟩, ⟨18, [vaV 21 (.atom 38)], [], xi 39⟩, ⟨42, [vaV 1 (.atom 18), vaV 21 (.atom 38)], [(.eq (.at 19) (.int 0), true), (.eq (.at 39) (.int 0), true)], xb 40⟩]
theorem run_requal9 : chk (runTr Tryz.prog nG (fun _ => none) gd moT rqlX 100 20 [vaV 1 (.atom 18), vaV 21 (.atom 38)] h0) eqT [(.isSl 18, true), (.isSl 38, true)] = true := by decide +kernel
theorem eq_core (f ck sm : FuncId) (hrun : chk (runTr Tryz.prog nG (fun _ => none) gd moT [⟨ck, [vaV 1 (.atom 18)], [], xi 19⟩, ⟨ck, [vaV 21 (.atom 38)], [], xi 39⟩, ⟨sm, [vaV 1 (.atom 18), vaV 21 (.atom 38)], [(.eq (.at 19) (.int 0), true), (.eq (.at 39) (.int 0), true)], xb 40⟩] 100 f [vaV 1 (.atom 18), vaV 21 (.atom 38)] h0) eqT [(.isSl 18, true), (.isSl 38, true)] = true)
  (hg : ∃ fn, Tryz.prog.funcs[ck]? = some fn /\ (fn.name == "runtime.NumGoroutine") = false /\ fn.body.isNone = false) (hg2 : ∃ fn, Tryz.prog.funcs[sm]? = some fn /\ (fn.name == "runtime.NumGoroutine") = false /\ fn.body.isNone = false)
  (v u : Vl) (l k : Value) (n m : Nat) (hl : SliceN l n) (hk : SliceN k m) (o1 o2 s : Bool) (w : World) (M : Int) (h1 : ∀ w', VK M w w' -> Calls Tryz.prog ck #[v.val l] w' fun e w'' => e = .returned (.int .i64 (chI o1)) /\ Below w'.heap.size w' w'') (h2 : ∀ w', VK M w w' -> Calls Tryz.prog ck #[u.val k] w' fun e w'' => e = .returned (.int .i64 (chI o2)) /\ Below w'.heap.size w' w'')
  (h3 : o1 = true -> o2 = true -> ∀ w', VK M w w' -> Calls Tryz.prog sm #[v.val l, u.val k] w' fun e w'' => e = .returned (.bool s) /\ Below w'.heap.size w' w'') (hV : Vars M w) :
  Calls Tryz.prog f #[v.val l, u.val k] w fun e w' => e = .returned (.tuple #[.bool ((o1 && o2) && s), .int .i64 (chI (o1 && o2))]) /\ Below w.heap.size w w' := by
 obtain ⟨env, hE⟩ : ∃ env, prE v u l k (chI o1) (chI o2) [.bool s] = env := ⟨_, rfl⟩
 have hone : env.all Value.oneCell' = true := hE ▸ prE_one hl hk _ _ _ rfl
 have h18 : envE (.int .i64 M :: env) 18 = l := hE ▸ rfl
 have h38 : envE (.int .i64 M :: env) 38 = k := hE ▸ rfl
 have d19 : X.evB (envE (.int .i64 M :: env)) (.eq (.at 19) (.int 0)) = o1 := by
  show decide (X.evI (envE (.int .i64 M :: env)) (.at 19) = 0) = _
  rw [show X.evI (envE (.int .i64 M :: env)) (.at 19) = chI o1 from hE ▸ rfl, chI_zero]
 have d39 : X.evB (envE (.int .i64 M :: env)) (.eq (.at 39) (.int 0)) = o2 := by
  show decide (X.evI (envE (.int .i64 M :: env)) (.at 39) = 0) = _
  rw [show X.evI (envE (.int .i64 M :: env)) (.at 39) = chI o2 from hE ▸ rfl, chI_zero]
 have e40 : (V.tup [xb 40, it 0]).den L0 (envE (.int .i64 M :: env)) = .tuple #[.bool s, .int .i64 0] := hE ▸ rfl
 have c1 : CallX.Ok Tryz.prog (envE (.int .i64 M :: env)) (VK M w) ⟨ck, [vaV 1 (.atom 18)], [], xi 19⟩ := ⟨rfl, hg, fun _ L w' hw => by subst hE; exact h1 w' hw⟩
 have c2 : CallX.Ok Tryz.prog (envE (.int .i64 M :: env)) (VK M w) ⟨ck, [vaV 21 (.atom 38)], [], xi 39⟩ := ⟨rfl, hg, fun _ L w' hw => by subst hE; exact h2 w' hw⟩
 have c3 : CallX.Ok Tryz.prog (envE (.int .i64 M :: env)) (VK M w) ⟨sm, [vaV 1 (.atom 18), vaV 21 (.atom 38)], [(.eq (.at 19) (.int 0), true), (.eq (.at 39) (.int 0), true)], xb 40⟩ := ⟨rfl, hg2, fun hp L w' hw => by
  have q1 : o1 = true := d19.symm.trans hp.1
  have q2 : o2 = true := d39.symm.trans hp.2.1
  subst hE
  exact h3 q1 q2 w' hw⟩
 refine tree_rk hrun ⟨c1, c2, c3, trivial⟩ hone ⟨isSl_ok hl h18, isSl_ok hk h38, trivial⟩ rfl (hE ▸ rfl) ?_ hV
 show (bif X.evB (envE (.int .i64 M :: env)) (.eq (.at 19) (.int 0)) then bif X.evB (envE (.int .i64 M :: env)) (.eq (.at 39) (.int 0)) then V.tup [xb 40, it 0] else .tup [.bool false, it 2] else .tup [.bool false, it 2] : V).den L0 _ = _
 rw [d19, d39]
 cases o1 with
 | false => rfl
 | true =>
  cases o2 with
  | false => rfl
  | true => exact e40
def roT : Tree := .node (.eq (.at 19) (.int 0)) (.node (.eq (.at 39) (.int 0)) (.node (.eq (.at 1) (.at 21)) (.node (.eq (.at 1) (.int 3)) (.leaf (.tup [xi 40, .bool true, it 0]))
 (.node (.eq (.at 1) (.int 4)) (.node (.eq (.at 7) (.at 27)) (.node (.eq (.at 44) (.int 0)) (.node (.at 43) (.leaf (.tup [xi 42, .bool true, it 0])) (.leaf (.tup [it 0, .bool false, it 0]))) (.leaf (.tup [it 0, .bool false, it 0]))) orN) orN)) orN) orN) orN
def roX : List CallX := [⟨18, [vaV 1 (.atom 18)], [], xi 19⟩, ⟨18, [vaV 21 (.atom 38)], [], xi 39⟩, ⟨45, [deV 4, deV 24], [], .tup [xi 40, xi 41]⟩, ⟨46, [moV 7, moV 27], [], .tup [xi 42, xb 43, xi 44]⟩]
theorem run_rorder9 : chk (runTr Tryz.prog nG (fun _ => none) gd moT roX 100 22 [vaV 1 (.atom 18), vaV 21 (.atom 38)] h0) roT [(.isSl 18, true), (.isSl 38, true)] = true := by decide +kernel
theorem xrorder_is (v u : Vl) (hv : v.Sz) (hu : u.Sz) (l k : Value) (n m : Nat) (hl : SliceN l n) (hk : SliceN k m) (o1 o2 : Bool) (hb1 : o1 = true -> Lx.bareB v = true) (hb2 : o2 = true -> Lx.bareB u = true) (w : World) (M : Int) (h1 : ∀ w', VK M w w' -> Calls Tryz.prog 18 #[v.val l] w' fun e w'' => e = .returned (.int .i64 (chI o1)) /\ Below w'.heap.size w' w'')
  (h2 : ∀ w', VK M w w' -> Calls Tryz.prog 18 #[u.val k] w' fun e w'' => e = .returned (.int .i64 (chI o2)) /\ Below w'.heap.size w' w'') (hV : Vars M w) :
  Calls Tryz.prog 22 #[v.val l, u.val k] w fun e w' => e = .returned (.tuple #[.int .i64 (Lx.orderV o1 o2 v u).1, .bool (Lx.orderV o1 o2 v u).2.1, .int .i64 (Lx.orderV o1 o2 v u).2.2]) /\ Below w.heap.size w w' := by
 obtain ⟨env, hE⟩ : ∃ env, prE v u l k (chI o1) (chI o2) [.int .i64 (cmpR v.n v.s v.S u.n u.s u.S).1, .int .i64 (cmpR v.n v.s v.S u.n u.s u.S).2, .int .i64 (cmpM v.m u.m).1, .bool (cmpM v.m u.m).2.1, .int .i64 (cmpM v.m u.m).2.2] = env := ⟨_, rfl⟩
 have hone : env.all Value.oneCell' = true := hE ▸ prE_one hl hk _ _ _ rfl
 have h18 : envE (.int .i64 M :: env) 18 = l := hE ▸ rfl
 have h38 : envE (.int .i64 M :: env) 38 = k := hE ▸ rfl
 have c1 : CallX.Ok Tryz.prog (envE (.int .i64 M :: env)) (VK M w) ⟨18, [vaV 1 (.atom 18)], [], xi 19⟩ := ⟨rfl, fk, fun _ L w' hw => by subst hE; exact h1 w' hw⟩
 have c2 : CallX.Ok Tryz.prog (envE (.int .i64 M :: env)) (VK M w) ⟨18, [vaV 21 (.atom 38)], [], xi 39⟩ := ⟨rfl, fk, fun _ L w' hw => by subst hE; exact h2 w' hw⟩
 have c3 : CallX.Ok Tryz.prog (envE (.int .i64 M :: env)) (VK M w) ⟨45, [deV 4, deV 24], [], .tup [xi 40, xi 41]⟩ := ⟨rfl, fk, fun _ L w' _ => by subst hE; exact rcmp_is v.n v.s v.S u.n u.s u.S hv.s hu.s _ _ rfl w'⟩
 have c4 : CallX.Ok Tryz.prog (envE (.int .i64 M :: env)) (VK M w) ⟨46, [moV 7, moV 27], [], .tup [xi 42, xb 43, xi 44]⟩ := ⟨rfl, fk, fun _ L w' hw => by subst hE; exact rcmpm_is v.m u.m hv.m hu.m _ _ _ rfl w' M hw.1⟩
 refine tree_rk run_rorder9 ⟨c1, c2, c3, c4, trivial⟩ hone ⟨isSl_ok hl h18, isSl_ok hk h38, trivial⟩ rfl (hE ▸ rfl) ?_ hV
 obtain ⟨E, hEE⟩ : ∃ E, envE (.int .i64 M :: env) = E := ⟨_, rfl⟩
 have e1 : (V.tup [xi 40, .bool true, it 0]).den L0 E = .tuple #[.int .i64 (cmpR v.n v.s v.S u.n u.s u.S).1, .bool true, .int .i64 0] := by rw [<- hEE, <- hE]; rfl
 have e2 : (V.tup [xi 42, .bool true, it 0]).den L0 E = .tuple #[.int .i64 (cmpM v.m u.m).1, .bool true, .int .i64 0] := by rw [<- hEE, <- hE]; rfl
 have d19 : X.evB E (.eq (.at 19) (.int 0)) = o1 := by
  show decide (X.evI E (.at 19) = 0) = _
  rw [show X.evI E (.at 19) = chI o1 by rw [<- hEE, <- hE]; rfl, chI_zero]
 have d39 : X.evB E (.eq (.at 39) (.int 0)) = o2 := by
  show decide (X.evI E (.at 39) = 0) = _
  rw [show X.evI E (.at 39) = chI o2 by rw [<- hEE, <- hE]; rfl, chI_zero]
 have dk : X.evB E (.eq (.at 1) (.at 21)) = decide (v.k = u.k) := by rw [<- hEE, <- hE]; rfl
 have d3 : X.evB E (.eq (.at 1) (.int 3)) = decide (v.k = 3) := by rw [<- hEE, <- hE]; rfl
 have d4 : X.evB E (.eq (.at 1) (.int 4)) = decide (v.k = 4) := by rw [<- hEE, <- hE]; rfl
 have dm : X.evB E (.eq (.at 7) (.at 27)) = decide (v.m.k = u.m.k) := by rw [<- hEE, <- hE]; rfl
 have dz : X.evB E (.eq (.at 44) (.int 0)) = decide ((cmpM v.m u.m).2.2 = 0) := by rw [<- hEE, <- hE]; rfl
 have db : X.evB E (.at 43) = (cmpM v.m u.m).2.1 := by rw [<- hEE, <- hE]; rfl
 rw [hEE]
 clear hEE hE c1 c2 c3 c4
 show (bif X.evB E (.eq (.at 19) (.int 0)) then bif X.evB E (.eq (.at 39) (.int 0)) then bif X.evB E (.eq (.at 1) (.at 21)) then bif X.evB E (.eq (.at 1) (.int 3)) then V.tup [xi 40, .bool true, it 0] else bif X.evB E (.eq (.at 1) (.int 4)) then bif X.evB E (.eq (.at 7) (.at 27)) then bif X.evB E (.eq (.at 44) (.int 0)) then
  bif X.evB E (.at 43) then V.tup [xi 42, .bool true, it 0] else .tup [it 0, .bool false, it 0] else .tup [it 0, .bool false, it 0] else .tup [it 0, .bool false, it 2] else .tup [it 0, .bool false, it 2] else .tup [it 0, .bool false, it 2] else .tup [it 0, .bool false, it 2] else .tup [it 0, .bool false, it 2] : V).den L0 E = _
 rw [d19, d39, dk, d3, d4, dm, dz, db]
 unfold Lx.orderV
 cases ho1 : o1 with
 | false => rw [if_neg (fun h => by cases h.1)]; rfl
 | true =>
  cases ho2 : o2 with
  | false => rw [if_neg (fun h => by cases h.2.1)]; rfl
  | true =>
   have bv := hb1 ho1
   have bu := hb2 ho2
   by_cases hkk : v.k = u.k
   ·rw [decide_eq_true hkk]
    by_cases h3 : v.k = 3
    ·have hm : v.m.k = u.m.k := by rw [bare_m bv (by omega), bare_m bu (by omega)]
     rw [decide_eq_true h3, if_pos ⟨rfl, rfl, hkk, hm⟩, if_pos h3]
     exact e1
    ·rw [decide_eq_false h3]
     by_cases h4 : v.k = 4
     ·rw [decide_eq_true h4]
      by_cases hm : v.m.k = u.m.k
      ·rw [decide_eq_true hm, if_pos ⟨rfl, rfl, hkk, hm⟩, if_neg h3, if_pos h4]
       by_cases hz : (cmpM v.m u.m).2.2 = 0
       ·rw [decide_eq_true hz]
        cases hbb : (cmpM v.m u.m).2.1 with
        | true => rw [if_pos ⟨hz, rfl⟩]; exact e2
        | false => rw [if_neg (fun h => by cases h.2)]; rfl
       ·rw [decide_eq_false hz, if_neg (fun h => hz h.1)]; rfl
      ·rw [decide_eq_false hm, if_neg (fun h => hm h.2.2.2)]; rfl
     ·rw [decide_eq_false h4]
      by_cases hm : v.m.k = u.m.k
      ·rw [if_pos ⟨rfl, rfl, hkk, hm⟩, if_neg h3, if_neg h4]; rfl
      ·rw [if_neg (fun h => hm h.2.2.2)]; rfl
   ·rw [decide_eq_false hkk, if_neg (fun h => hkk h.2.2.1)]; rfl
theorem pair_same {v u : Vl} (hv : v.Sz) (hu : u.Sz) {l k : Value} {es fs : List El} (hes : ∀ e ∈ es, e.Sz) (hfs : ∀ e ∈ fs, e.Sz) {w : World} (hl : Lst w l es) (hk : Lst w k fs) {M : Int} (h1 : Lx.okV v es.length (Lx.badL es) = true) (h2 : Lx.okV u fs.length (Lx.badL fs) = true) :
  (∀ w', VK M w w' -> Calls Tryz.prog 41 #[v.val l, u.val k] w' fun e w'' => e = .returned (.bool (Lx.sameB v u (Lx.qL es fs))) /\ Below w'.heap.size w' w'') /\ (∀ w', VK M w w' -> Calls Tryz.prog 42 #[v.val l, u.val k] w' fun e w'' => e = .returned (.bool (Lx.sameB v u (Lx.qL es fs))) /\ Below w'.heap.size w' w'') := by
 refine ⟨fun w' hw => ?_, fun w' hw => ?_⟩
 ·refine xsame_is v u hv hu l k es.length fs.length hl.slice hk.slice (Lx.qL es fs) w' M (fun h6 _ w'' hw'' => ?_) hw.1
  obtain ⟨hn, hb⟩ := ok6_parts h6 h1
  have hK := hw.2.trans hw''.2
  exact xeqf_is hes hfs hb hn l k w'' (hl.keep hK) (hk.keep hK) M hw''.1
 ·by_cases h6 : v.k = 6
  ·by_cases g6 : u.k = 6
   ·obtain ⟨hn, hb⟩ := ok6_parts h6 h1
    obtain ⟨_, hbf⟩ := ok6_parts g6 h2
    have q := xrsame6_is v u h6 g6 hes hfs hb hbf hn l k w' (hl.keep hw.2) (hk.keep hw.2) M hw.1
    have e : Lx.sameB v u (Lx.qL es fs) = Lx.qL es fs := by unfold Lx.sameB; rw [if_pos (h6.trans g6.symm), if_neg (by omega), if_pos h6]
    rw [e]
    exact q
   ·have e : Lx.sameB v u (Lx.qL es fs) = false := by unfold Lx.sameB; rw [if_neg (by omega)]
    rw [e]
    exact xrsame6_no v u l k es.length fs.length hl.slice hk.slice h6 g6 w' M hw.1
  ·have q := xrsame_is v u hv hu l k es.length fs.length hl.slice hk.slice h6 w' M hw.1
   rw [rsB_same h1 h2 h6 (Lx.qL es fs)] at q
   exact q
structure Both2 (M : Int) (w : World) (v u : Vl) (l k : Value) (x : Bool) (e : Int) (r : Int × Bool × Int) : Prop where
 peq : ∀ w', VK M w w' -> Calls Tryz.prog 19 #[v.val l, u.val k] w' fun q w'' => q = .returned (.tuple #[.bool x, .int .i64 e]) /\ Below w'.heap.size w' w''
 req : ∀ w', VK M w w' -> Calls Tryz.prog 20 #[v.val l, u.val k] w' fun q w'' => q = .returned (.tuple #[.bool x, .int .i64 e]) /\ Below w'.heap.size w' w''
 por : ∀ w', VK M w w' -> Calls Tryz.prog 21 #[v.val l, u.val k] w' fun q w'' => q = .returned (.tuple #[.int .i64 r.1, .bool r.2.1, .int .i64 r.2.2]) /\ Below w'.heap.size w' w''
 ror : ∀ w', VK M w w' -> Calls Tryz.prog 22 #[v.val l, u.val k] w' fun q w'' => q = .returned (.tuple #[.int .i64 r.1, .bool r.2.1, .int .i64 r.2.2]) /\ Below w'.heap.size w' w''
theorem both2_is {v u : Vl} (hv : v.Sz) (hu : u.Sz) {l k : Value} {es fs : List El} (hes : ∀ e ∈ es, e.Sz) (hfs : ∀ e ∈ fs, e.Sz) {w : World} (hl : Lst w l es) (hk : Lst w k fs) (M : Int) : ∃ x e r, Both2 M w v u l k x e r := by
 obtain ⟨o1, ho1⟩ : ∃ o, o = Lx.okV v es.length (Lx.badL es) := ⟨_, rfl⟩
 obtain ⟨o2, ho2⟩ : ∃ o, o = Lx.okV u fs.length (Lx.badL fs) := ⟨_, rfl⟩
 have p1 := pck_is v hv l es hes w hl M ho1.symm
 have r1 := rck_is v hv l es hes w hl M ho1.symm
 have p2 := pck_is u hu k fs hfs w hk M ho2.symm
 have r2 := rck_is u hu k fs hfs w hk M ho2.symm
 have hsl := hl.slice
 have hsk := hk.slice
 refine ⟨(o1 && o2) && Lx.sameB v u (Lx.qL es fs), chI (o1 && o2), Lx.orderV o1 o2 v u, ⟨fun w' hw => ?_, fun w' hw => ?_, fun w' hw => ?_, fun w' hw => ?_⟩⟩
 ·exact eq_core 19 17 41 run_equal9 fk fk v u l k _ _ hsl hsk o1 o2 _ w' M (fun w'' h => p1 w'' (vk_trans hw h)) (fun w'' h => p2 w'' (vk_trans hw h))
   (fun q1 q2 w'' h => (pair_same hv hu hes hfs hl hk (ho1 ▸ q1) (ho2 ▸ q2)).1 w'' (vk_trans hw h)) hw.1
 ·exact eq_core 20 18 42 run_requal9 fk fk v u l k _ _ hsl hsk o1 o2 _ w' M (fun w'' h => r1 w'' (vk_trans hw h)) (fun w'' h => r2 w'' (vk_trans hw h))
   (fun q1 q2 w'' h => (pair_same hv hu hes hfs hl hk (ho1 ▸ q1) (ho2 ▸ q2)).2 w'' (vk_trans hw h)) hw.1
 ·have q := xorder_is v u hv hu l k es.length fs.length hsl hsk (Lx.badL es) (Lx.badL fs) w' M (xcont_is hes v l w' (hl.keep hw.2) M) (xcont_is hfs u k w' (hk.keep hw.2) M) hw.1
  rw [<- ho1, <- ho2] at q
  exact q
 ·exact xrorder_is v u hv hu l k _ _ hsl hsk o1 o2 (fun h => okV_bare (ho1.symm.trans h)) (fun h => okV_bare (ho2.symm.trans h)) w' M (fun w'' h => r1 w'' (vk_trans hw h)) (fun w'' h => r2 w'' (vk_trans hw h)) hw.1
def lpP : Fx := [(.at 20, false), (.at 40, false)]
def lpC : List CallX := [⟨8, [], [], .bool true⟩, ⟨12, [vaV 1 (.atom 18)], [], xb 20⟩, ⟨12, [vaV 21 (.atom 38)], [], xb 40⟩, ⟨19, [vaV 1 (.atom 18), vaV 21 (.atom 38)], lpP, .tup [xb 41, xi 42]⟩, ⟨20, [vaV 1 (.atom 18), vaV 21 (.atom 38)], lpP, .tup [xb 41, xi 42]⟩, ⟨21, [vaV 1 (.atom 18), vaV 21 (.atom 38)], lpP, .tup [xi 43, xb 44, xi 45]⟩, ⟨22, [vaV 1 (.atom 18), vaV 21 (.atom 38)], lpP, .tup [xi 43, xb 44, xi 45]⟩]
theorem run_lp : chk (runTr Tryz.prog nG (fun _ => none) gd moT lpC 100 6 [vaV 1 (.atom 18), vaV 21 (.atom 38)] h0) (.node (.at 20) yesT (.node (.at 40) yesT yesT)) [(.isSl 18, true), (.isSl 38, true)] = true := by decide +kernel
def lpE (v u : Vl) (l k : Value) (r s x : Bool) (e n : Int) (t : Bool) (g : Int) : List Value := vE v l ++ ([.int .i64 0, .bool r] ++ (vE u k ++ [.int .i64 0, .bool s, .bool x, .int .i64 e, .int .i64 n, .bool t, .int .i64 g]))
theorem xpairs_is (v u : Vl) (l k : Value) (es fs : List El) (w : World) (hd : Deep w l es) (hd2 : Deep w k fs) (M : Int) (hV : Vars M w) : Calls Tryz.prog 6 #[v.val l, u.val k] w fun e w' => e = .returned (.bool true) /\ Below w.heap.size w w' := by
 obtain ⟨r, hbey, hsz⟩ := xbeyond_is v l es w hd M
 obtain ⟨s, hbey2, hsz2⟩ := xbeyond_is u k fs w hd2 M
 have hsl := hd.1.slice
 have hsk := hd2.1.slice
 obtain ⟨x, e, ⟨n, t, g⟩, hB⟩ : ∃ (x : Bool) (e : Int) (q : Int × Bool × Int), r = false -> s = false -> Both2 M w v u l k x e q := by
  cases hr : r with
  | true => exact ⟨true, 0, (0, true, 0), fun h => by cases h⟩
  | false =>
   cases hs : s with
   | true => exact ⟨true, 0, (0, true, 0), fun _ h => by cases h⟩
   | false =>
    obtain ⟨h1, h2⟩ := hsz hr
    obtain ⟨g1, g2⟩ := hsz2 hs
    obtain ⟨x, e, q, hb⟩ := both2_is h1 g1 h2 g2 hd.1 hd2.1 M
    exact ⟨x, e, q, fun _ _ => hb⟩
 obtain ⟨env, hE⟩ : ∃ env, lpE v u l k r s x e n t g = env := ⟨_, rfl⟩
 have hone : env.all Value.oneCell' = true := by
  rw [<- hE]
  unfold lpE
  refine vE_one v l _ hsl _ ?_
  rw [List.all_append]
  exact (Bool.and_eq_true _ _).symm ▸ ⟨rfl, vE_one u k _ hsk _ rfl⟩
 have h18 : envE (.int .i64 M :: env) 18 = l := hE ▸ rfl
 have h38 : envE (.int .i64 M :: env) 38 = k := hE ▸ rfl
 have d20 : X.evB (envE (.int .i64 M :: env)) (.at 20) = r := hE ▸ rfl
 have d40 : X.evB (envE (.int .i64 M :: env)) (.at 40) = s := hE ▸ rfl
 have hav : ∀ L, V.dens L (envE (.int .i64 M :: env)) [vaV 1 (.atom 18), vaV 21 (.atom 38)] = [v.val l, u.val k] := fun L => hE ▸ rfl
 have hav1 : ∀ L, V.dens L (envE (.int .i64 M :: env)) [vaV 1 (.atom 18)] = [v.val l] := fun L => hE ▸ rfl
 have hav2 : ∀ L, V.dens L (envE (.int .i64 M :: env)) [vaV 21 (.atom 38)] = [u.val k] := fun L => hE ▸ rfl
 have one : ∀ (f : FuncId) (args : List V) (av : List Value) (pre : Fx) (y : V) (z : Value), y.ok 0 = true -> (∀ L, y.den L (envE (.int .i64 M :: env)) = z) -> (∀ L, V.dens L (envE (.int .i64 M :: env)) args = av) -> (∃ fn, Tryz.prog.funcs[f]? = some fn /\ (fn.name == "runtime.NumGoroutine") = false /\ fn.body.isNone = false) ->
   (pre.Ok (envE (.int .i64 M :: env)) -> ∀ w', VK M w w' -> Calls Tryz.prog f av.toArray w' fun q w'' => q = .returned z /\ Below w'.heap.size w' w'') -> CallX.Ok Tryz.prog (envE (.int .i64 M :: env)) (VK M w) ⟨f, args, pre, y⟩ := fun f args av pre y z hy hz ha hf h => by
  refine ⟨ok_mono (by decide) y hy, hf, fun hpre L w' hw => ?_⟩
  show Calls _ _ (V.dens L (envE (.int .i64 M :: env)) args).toArray w' _
  rw [ha]
  refine (h hpre w' hw).mono fun q w'' hq => ⟨?_, hq.2⟩
  unfold PostX
  rw [hy, hz]
  exact hq.1
 have hp : lpP.Ok (envE (.int .i64 M :: env)) -> Both2 M w v u l k x e (n, t, g) := fun h => hB (d20.symm.trans h.1) (d40.symm.trans h.2.1)
 refine tree_rk run_lp ⟨⟨rfl, fk, fun _ L w' hw => xshown3_is w' M hw.1⟩,
  one 12 _ [v.val l] [] (xb 20) (.bool r) rfl (fun L => hE ▸ rfl) hav1 fk (fun _ => hbey),
  one 12 _ [u.val k] [] (xb 40) (.bool s) rfl (fun L => hE ▸ rfl) hav2 fk (fun _ => hbey2),
  one 19 _ [v.val l, u.val k] lpP (.tup [xb 41, xi 42]) (.tuple #[.bool x, .int .i64 e]) rfl (fun L => hE ▸ rfl) hav fk (fun h => (hp h).peq),
  one 20 _ [v.val l, u.val k] lpP (.tup [xb 41, xi 42]) (.tuple #[.bool x, .int .i64 e]) rfl (fun L => hE ▸ rfl) hav fk (fun h => (hp h).req),
  one 21 _ [v.val l, u.val k] lpP (.tup [xi 43, xb 44, xi 45]) (.tuple #[.int .i64 n, .bool t, .int .i64 g]) rfl (fun L => hE ▸ rfl) hav fk (fun h => (hp h).por),
  one 22 _ [v.val l, u.val k] lpP (.tup [xi 43, xb 44, xi 45]) (.tuple #[.int .i64 n, .bool t, .int .i64 g]) rfl (fun L => hE ▸ rfl) hav fk (fun h => (hp h).ror), trivial⟩ hone ⟨isSl_ok hsl h18, isSl_ok hsk h38, trivial⟩ rfl ?_ ?_ hV
 ·rw [hav]
 ·show (bif X.evB (envE (.int .i64 M :: env)) (.at 20) then V.bool true else bif X.evB (envE (.int .i64 M :: env)) (.at 40) then V.bool true else .bool true : V).den L0 _ = _
  cases X.evB (envE (.int .i64 M :: env)) (.at 20) <;> cases X.evB (envE (.int .i64 M :: env)) (.at 40) <;> rfl
end Go.Proofs.YthoojcdjjecogaaGreatDoor
