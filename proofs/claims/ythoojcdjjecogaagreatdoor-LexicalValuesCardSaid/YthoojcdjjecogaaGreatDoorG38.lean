/-
  Part 38 of the proof: what functions return, and plain facts (Xsize Xrtx6 Xptx6 Xlen1 Xvals). Conditions: each theorem names its own.
-/
import Derived.Test.YthoojcdjjecogaaGreatDoorG37
import Derived.Test.YthoojcdjjecogaaGreatDoorG21
import Derived.Lib.RuneCount
import Derived.Laws.IdiomStrings
set_option maxRecDepth 1000000
set_option maxHeartbeats 16000000
namespace Go.Proofs.YthoojcdjjecogaaGreatDoor
open Go Go.RowKit Go.Ex
theorem dig_low {l : List Nat} (h : l.all Dc.dig = true) : ∀ c ∈ l, c < 256 := fun c hc => by
 have := (Dc.dig_iff.1 (List.all_eq_true.1 h c hc)).2
 omega
namespace Mo
theorem pad_low (k n : Nat) : ∀ c ∈ Dc.pad k n, c < 256 := dig_low (Dc.pad_dig k n)
theorem secL_low {x : Mo} (h : secB x = true) : ∀ c ∈ secL x, c < 256 := by
 obtain ⟨p, q, _, hp, hq, hs, _⟩ := secL_form h
 intro c hc
 rcases hs with ⟨_, e⟩ | ⟨_, e⟩
 ·rw [e] at hc; exact dig_low hp c hc
 ·rw [e] at hc
  rcases List.mem_append.1 hc with h1 | h1
  ·exact dig_low hp c h1
  ·rcases List.mem_cons.1 h1 with rfl | h1
   ·decide
   ·exact dig_low hq c h1
theorem secL_short {x : Mo} (h : secB x = true) : (secL x).length <= 70 := by
 have k := okB_ok (n := x.n) (s := x.s) (S := x.S) (by unfold secB at h; simp only [Bool.and_eq_true] at h; exact h.1)
 have h1 : (Dc.txt x.n (bts x.s) x.S.toNat).length <= max (x.S.toNat + 1) (bts x.s).length + 2 := by
  have h := Dc.wide_length (bts x.s) x.S.toNat
  unfold Dc.txt Dc.dotted
  split <;> split <;> (try simp only [List.length_cons, List.length_append, List.length_take, List.length_drop]) <;> omega
 have h2 := k.size
 have h3 := k.high
 rw [bts_length] at h1
 unfold secL
 split
 ·rw [List.length_cons]; omega
 ·omega
theorem low_app {a b : List Nat} (ha : ∀ c ∈ a, c < 256) (hb : ∀ c ∈ b, c < 256) : ∀ c ∈ a ++ b, c < 256 := fun c hc => (List.mem_append.1 hc).elim (ha c) (hb c)
theorem low_cons {a : Nat} {b : List Nat} (ha : a < 256) (hb : ∀ c ∈ b, c < 256) : ∀ c ∈ a :: b, c < 256 := fun c hc => by
 rcases List.mem_cons.1 hc with rfl | h
 ·exact ha
 ·exact hb c h
theorem low_nil : ∀ c ∈ ([] : List Nat), c < 256 := fun _ h => by cases h
theorem dateL_short {x : Mo} (h : dateOk x) : (dateL x).length <= 11 /\ ∀ c ∈ dateL x, c < 256 := by
 obtain ⟨h1, h2, h3, h4, h5, h6, h7⟩ := h
 have hd := dim_bd (counted x.y) x.m
 refine ⟨?_, ?_⟩
 ·unfold dateL
  have a := Dc.pad_length (k := 4) (n := x.y.natAbs) (by decide) (by omega)
  have b := Dc.pad_length (k := 2) (n := x.m.natAbs) (by decide) (by omega)
  have c := Dc.pad_length (k := 2) (n := x.d.natAbs) (by decide) (by omega)
  simp only [List.length_append, List.length_cons, a, b, c]
  split <;> simp
 ·unfold dateL
  refine low_app ?_ (low_app (pad_low _ _) (low_cons (by decide) (low_app (pad_low _ _) (low_cons (by decide) (pad_low _ _)))))
  split
  ·exact low_cons (by decide) low_nil
  ·exact low_nil
theorem timeL_short {x : Mo} (h : timeOk x) : (timeL x).length <= 80 /\ ∀ c ∈ timeL x, c < 256 := by
 obtain ⟨h1, h2, h3, h4, h5⟩ := h
 refine ⟨?_, ?_⟩
 ·unfold timeL
  have a := Dc.pad_length (k := 2) (n := x.h.natAbs) (by decide) (by omega)
  have b := Dc.pad_length (k := 2) (n := x.i.natAbs) (by decide) (by omega)
  have c := secL_short h1
  simp only [List.length_append, List.length_cons, a, b]
  omega
 ·unfold timeL
  exact low_app (pad_low _ _) (low_cons (by decide) (low_app (pad_low _ _) (low_cons (by decide) (secL_low h1))))
theorem zoneL_short {x : Mo} (h1 : -840 <= x.o) (h2 : x.o <= 840) : (zoneL x).length <= 6 /\ ∀ c ∈ zoneL x, c < 256 := by
 unfold zoneL
 split
 ·exact ⟨by decide, low_nil⟩
 split
 ·exact ⟨by decide, low_cons (by decide) low_nil⟩
 ·refine ⟨?_, low_cons (by split <;> decide) (low_app (pad_low _ _) (low_cons (by decide) (pad_low _ _)))⟩
  have a := Dc.pad_length (k := 2) (n := x.o.natAbs / 60) (by decide) (by omega)
  have b := Dc.pad_length (k := 2) (n := x.o.natAbs % 60) (by decide) (by omega)
  simp only [List.length_append, List.length_cons, a, b]
  decide
theorem textL_short {x : Mo} (h : Ok x) : (textL x).length <= 300 /\ ∀ c ∈ textL x, c < 256 := by
 obtain ⟨h1, h2, h3, h4, h5, h6⟩ := h
 have z := zoneL_short h2 h3
 have d : (if x.k = 2 then [] else dateL x).length <= 11 /\ ∀ c ∈ (if x.k = 2 then [] else dateL x), c < 256 := by
  split
  ·exact ⟨by decide, low_nil⟩
  ·rename_i hk; rw [if_neg hk] at h5; exact dateL_short h5
 have t : (if x.k = 1 then [] else timeL x).length <= 80 /\ ∀ c ∈ (if x.k = 1 then [] else timeL x), c < 256 := by
  split
  ·exact ⟨by decide, low_nil⟩
  ·rename_i hk; rw [if_neg hk] at h6; exact timeL_short h6
 have m : (if x.k = 3 then [84] else ([] : List Nat)).length <= 1 /\ ∀ c ∈ (if x.k = 3 then [84] else ([] : List Nat)), c < 256 := by
  split
  ·exact ⟨by decide, low_cons (by decide) low_nil⟩
  ·exact ⟨by decide, low_nil⟩
 unfold textL
 refine ⟨?_, low_app d.2 (low_app m.2 (low_app t.2 z.2))⟩
 simp only [List.length_append]
 omega
end Mo
theorem okV_kind {v : Vl} {n : Nat} {lc : Bool} (h : Lx.okV v n lc = true) : v.k = 1 \/ v.k = 2 \/ v.k = 3 \/ v.k = 4 \/ v.k = 5 \/ v.k = 6 := by
 unfold Lx.okV Lx.kindB at h
 rw [Bool.and_eq_true] at h
 by_cases h1 : v.k = 1
 ·exact .inl h1
 by_cases h2 : v.k = 2 \/ v.k = 5
 ·omega
 by_cases h3 : v.k = 3
 ·omega
 by_cases h4 : v.k = 4
 ·omega
 by_cases h6 : v.k = 6
 ·omega
 rw [if_neg h1, if_neg h2, if_neg h3, if_neg h4, if_neg h6] at h
 exact absurd h.1 (by decide)
theorem okV_dec {v : Vl} {n : Nat} {lc : Bool} (h : Lx.okV v n lc = true) (h3 : v.k = 3) : okB v.n v.s v.S = true := by
 unfold Lx.okV Lx.kindB at h
 rw [if_neg (by omega), if_neg (by omega), if_pos h3, Bool.and_eq_true] at h
 exact h.1
theorem okV_mo {v : Vl} {n : Nat} {lc : Bool} (h : Lx.okV v n lc = true) (h4 : v.k = 4) : Mo.okB v.m = true := by
 unfold Lx.okV Lx.kindB at h
 rw [if_neg (by omega), if_neg (by omega), if_neg (by omega), if_pos h4, Bool.and_eq_true] at h
 exact h.1
theorem okV_str {v : Vl} {n : Nat} {lc : Bool} (h : Lx.okV v n lc = true) (h1 : v.k = 1) : wrongI v.t = -1 := by
 unfold Lx.okV Lx.kindB at h
 rw [if_pos h1, Bool.and_eq_true] at h
 exact of_decide_eq_true h.1
theorem textR_zero {v : Vl} (h : okB v.n v.s v.S = true) : (textR v.n v.s v.S).2 = 0 := by unfold textR; rw [if_pos h]
theorem textM_zero {v : Vl} (h : Mo.okB v.m = true) : (Mo.textM v.m).2 = 0 := by unfold Mo.textM; rw [if_pos h]
theorem textS_size {v : Vl} {n : Nat} {lc : Bool} (hv : v.Sz) (h : Lx.okV v n lc = true) (h6 : v.k ≠ 6) : (Lx.textS v).size <= 200000 := by
 have ht := hv.t
 rcases okV_kind h with hk | hk | hk | hk | hk | hk
 ·rw [textS_1 hk]; omega
 ·rw [textS_2 hk]; split <;> decide
 ·have k := okB_ok (okV_dec h hk)
  rw [textS_3 hk]
  unfold textR
  rw [if_pos (okV_dec h hk), str_size]
  have h1 : (Dc.txt v.n (bts v.s) v.S.toNat).length <= max (v.S.toNat + 1) (bts v.s).length + 2 := by
   have h := Dc.wide_length (bts v.s) v.S.toNat
   unfold Dc.txt Dc.dotted
   split <;> split <;> (try simp only [List.length_cons, List.length_append, List.length_take, List.length_drop]) <;> omega
  have h2 := k.size
  have h3 := k.high
  rw [bts_length] at h1
  show (Dc.txt v.n (bts v.s) v.S.toNat).length <= 200000
  omega
 ·rw [textS_4 hk]
  unfold Mo.textM
  rw [if_pos (okV_mo h hk)]
  have q := (Mo.textL_short (of_decide_eq_true (okV_mo h hk) : Mo.Ok v.m)).1
  show (str (Mo.textL v.m)).size <= 200000
  rw [str_size]
  omega
 ·rw [textS_5 hk, str_size, Lx.hexT_length, bts_length]; omega
 ·exact absurd hk h6
theorem xrtxn_is (v : Vl) (hv : v.Sz) (l : Value) (n : Nat) (hl : SliceN l n) (lc : Bool) (h6 : v.k ≠ 6) (w : World) (M : Int) (hV : Vars M w) : Calls Tryz.prog 14 #[v.val l] w fun e w' => e = .returned (okT (Lx.okV v n lc) (Lx.textS v)) /\ Below w.heap.size w w' := by
 obtain ⟨o, ho⟩ : ∃ o, Lx.okV v n lc = o := ⟨_, rfl⟩
 have hck : ∀ w, Vars M w -> Calls Tryz.prog 18 #[v.val l] w fun e w' => e = .returned (.int .i64 (chI o)) /\ Below w.heap.size w w' := fun w hV => by
  have q := xrck_is v hv l n hl lc h6 w M hV
  rw [ho] at q
  exact q
 rw [ho]
 by_cases h5 : v.k = 5
 ·exact xrtx5_is v h5 hv l n hl o w M (fun w' hw => hck w' hw.1) hV
 ·refine xrtx_core v hv l n hl o h5 h6 w M hck (fun h k => textR_zero (okV_dec (ho.trans h) k)) (fun h k => textM_zero (okV_mo (ho.trans h) k)) (fun h => ?_) hV
  rcases okV_kind (ho.trans h) with q | q | q | q | q | q
  ·exact .inl q
  ·exact .inr (.inl q)
  ·exact .inr (.inr (.inl q))
  ·exact .inr (.inr (.inr q))
  ·exact absurd q h5
  ·exact absurd q h6
theorem bad_no {e : El} (h : Lx.badE e = false) : e.v.k ≠ 6 /\ Lx.okV e.v e.n false = true := by
 unfold Lx.badE at h
 rw [Bool.or_eq_false_iff] at h
 exact ⟨of_decide_eq_false h.1, by simpa using h.2⟩
end Go.Proofs.YthoojcdjjecogaaGreatDoor
namespace Go.Proofs.YthoojcdjjecogaaGreatDoor
open Go Go.RowKit Go.Ex

def t6Ts : List Nat := [1, 2, 3, 6, 7]
def t6Pat : List V := [.ptr 10 0, .str [], it 0, xs 42, xi 21]
def t6G : Giv := ⟨[⟨14, [vaV 23 (.atom 40)], [], .tup [xs 41, it 0]⟩], elO 18 21, []⟩
def t6A : X := .cat (.at 42) (.str [32])
def t6F : Fx := [(.isSl 18, true), (.isSl 40, true), (.lt (.at 21) (.slen 18), true), (.fits (.at 42) (.str [32]), true), (.fits t6A (.at 41), true), (.fits (.at 42) (.at 41), true)]
def t6Go (x : X) : Tree := .leaf (.tup [it 0, .ptr 10 0, .str [], it 0, .xs x, .xi .i64 (.add .i64 (.at 21) (.int 1))])
def t6R : Tree := .node (.lt (.int 0) (.at 21)) (t6Go (.cat t6A (.at 41))) (t6Go (.cat (.at 42) (.at 41)))
def t6Ex : Tree := .leaf (.tup [it 4, .ptr 10 0, .str [], it 0, xs 42, xi 21])
theorem run_t6r : chk (runRd Tryz.prog nG (fun _ => none) gd moT t6G 100 14 1 t6Ts t6Pat (t5H 6)) t6R t6F = true := by decide +kernel
theorem run_t6e : chk (runRd Tryz.prog nG (fun _ => none) gd moT ⟨[], [], []⟩ 100 14 1 t6Ts t6Pat (t5H 6)) t6Ex [(.isSl 18, true), (.lt (.at 21) (.slen 18), false)] = true := by decide +kernel
theorem t6_rows : (t5H 6).rows.all (fun r => V.los 21 r.cells) = true := by decide +kernel
noncomputable def t6Loop : LoopX := ⟨[(.eq (.at 19) (.int 0), true)], t6Ts, t5Need, t5H 6, .exit 3, t5Out⟩
theorem run_t6 : chk (runLp Tryz.prog nG (fun _ => none) gd moT ⟨[rxQ (it 6)], [], [(1, [t6Loop])]⟩ 100 14 [vaK 6 1 (.atom 18)] h0) t5T [(.isSl 18, true)] = true := by decide +kernel
theorem joinL_bts (ts : List ByteArray) (t : ByteArray) (h : ts ≠ []) : Lx.joinL (ts ++ [t]) = Lx.joinL ts ++ Go.Ex.bytes [32] ++ t := by
 rw [<- str_bts (Lx.joinL (ts ++ [t])), <- str_bts (Lx.joinL ts ++ Go.Ex.bytes [32] ++ t), str_add, str_add]
 congr 1
 unfold bts
 rw [Lx.joinL_snoc ts t h, List.map_append, List.map_append]
 rfl
theorem listT_succ {es : List El} {k : Nat} {e : El} (he : es[k]? = some e) : Lx.listT (es.take (k + 1)) = if 0 < k then Lx.listT (es.take k) ++ Go.Ex.bytes [32] ++ Lx.elT e else Lx.listT (es.take k) ++ Lx.elT e := by
 obtain ⟨hk, hke⟩ := List.getElem?_eq_some_iff.1 he
 unfold Lx.listT
 rw [List.take_succ_eq_append_getElem hk, hke, List.map_append]
 split
 ·exact joinL_bts _ _ (fun h0 => by have := congrArg List.length h0; rw [List.length_map, List.length_take] at this; simp only [List.length_nil] at this; omega)
 ·have h0 : k = 0 := by omega
  subst h0
  rw [List.take_zero, List.map_nil, List.nil_append, List.map_cons, List.map_nil, Lx.joinL_one, Lx.joinL_nil]
  rw [<- str_bts ((⟨#[]⟩ : ByteArray) ++ Lx.elT e), str_add]
  show _ = str ([] ++ bts (Lx.elT e))
  rw [List.nil_append, str_bts]
theorem listT_size {es : List El} (hes : ∀ e ∈ es, e.Sz) (hb : Lx.badL es = false) (k : Nat) : (Lx.listT (es.take k)).size <= es.length * 200001 := by
 unfold Lx.listT
 refine Nat.le_trans (Lx.joinL_size _ 200000 fun t ht => ?_) ?_
 ·obtain ⟨e, he, rfl⟩ := List.mem_map.1 ht
  have hm := List.mem_of_mem_take he
  obtain ⟨h6, hk⟩ := bad_no (List.any_eq_false.1 hb e hm |> fun h => by simpa using h)
  exact textS_size (hes e hm).v hk h6
 ·rw [List.length_map, List.length_take]
  exact Nat.mul_le_mul_right _ (Nat.min_le_right _ _)
def t6E (v : Vl) (l : Value) (o : Bool) (es : List El) : List Value := vE v l ++ [.int .i64 (chI o), .string (Lx.listT es)]
def t6Rd (b off : Nat) (es : List El) (k : Nat) : List Value := elR k b off (es.getD k default) ++ [.string (Lx.elT (es.getD k default)), .string (Lx.listT (es.take k))]
theorem t6Rd_one (b off : Nat) {es : List El} (hes : ∀ e ∈ es, e.Sz) (k : Nat) : (t6Rd b off es k).all Value.oneCell' = true := by
 refine elR_one ?_ rfl
 cases hk : es[k]? with
 | none => rw [List.getD_eq_getElem?_getD, hk]; exact def_slice
 | some e => rw [getD_of hk]; exact (hes e (List.mem_of_getElem? hk)).l
theorem t6_round {v : Vl} {es : List El} {b off c : Nat} {o : Bool} {w : World} {M : Int} (hh : Holds w b off es) (hes : ∀ e ∈ es, e.Sz) (hb : Lx.badL es = false) (hn : es.length <= 300) (k : Nat) (hk : k < es.length) :
  t6F.Ok (rndE (envE (.int .i64 M :: t6E v (.slice (some ⟨b, off, none⟩) es.length c) o es)) 21 (t6Rd b off es k)) /\ t6G.Ok Tryz.prog (rndE (envE (.int .i64 M :: t6E v (.slice (some ⟨b, off, none⟩) es.length c) o es)) 21 (t6Rd b off es k)) nG w (VK M w) (nOf Tryz.f14) 2 (subOf (bodyOf Tryz.f14) 1) := by
 have he : es[k]? = some es[k] := List.getElem?_eq_getElem hk
 have hsz := hes es[k] (List.getElem_mem hk)
 have hg : Lx.badE es[k] = false := List.any_eq_false.1 hb _ (List.getElem_mem hk) |> fun h => by simpa using h
 have hT := listT_size hes hb k
 have hT3 : es.length * 200001 <= 300 * 200001 := Nat.mul_le_mul_right _ hn
 unfold t6Rd
 rw [getD_of he]
 obtain ⟨e, hee⟩ : ∃ e, es[k] = e := ⟨_, rfl⟩
 rw [hee] at he hsz hg ⊢
 obtain ⟨h6, hok⟩ := bad_no hg
 have hS : (Lx.elT e).size <= 200000 := textS_size hsz.v hok h6
 obtain ⟨E, hE⟩ : ∃ E, rndE (envE (.int .i64 M :: t6E v (.slice (some ⟨b, off, none⟩) es.length c) o es)) 21 (elR k b off e ++ [.string (Lx.elT e), .string (Lx.listT (es.take k))]) = E := ⟨_, rfl⟩
 have h18 : E 18 = .slice (some ⟨b, off, none⟩) es.length c := by rw [<- hE, rndE_lt (by decide)]; rfl
 have h21 : E 21 = .int .i64 (k : Int) := hE ▸ rnd_k
 have h22 : E 22 = .pointer (some ⟨b, off + k * 18, none⟩) := hE ▸ rnd_p
 have hel : ∀ i, i < 18 -> E (23 + i) = e.enc.getD i (.bool false) := fun i hi => hE ▸ rnd_el i hi
 have h41 : E 41 = .string (Lx.elT e) := hE ▸ rnd_tl 0
 have h42 : E 42 = .string (Lx.listT (es.take k)) := hE ▸ rnd_tl 1
 have h40 : E 40 = e.l := hel 17 (by decide)
 rw [hE]
 clear hE
 have s41 : X.evS E (.at 41) = Lx.elT e := by simp only [X.evS, h41]
 have s42 : X.evS E (.at 42) = Lx.listT (es.take k) := by simp only [X.evS, h42]
 have s1 : (X.evS E (.str [32])).size = 1 := rfl
 have sA : (X.evS E t6A).size = (Lx.listT (es.take k)).size + 1 := by
  show (X.evS E (.at 42) ++ X.evS E (.str [32])).size = _
  rw [ByteArray.size_append, s42, s1]
 refine ⟨⟨by simp only [X.evB, h18], isSl_ok hsz.l h40, ?_, ?_, ?_, ?_, trivial⟩, giv_flat ⟨?_, trivial⟩ (elO_ok hh he h18 h21 h22 hel)⟩
 ·show decide (X.evI E (.at 21) < X.evI E (.slen 18)) = true
  rw [show X.evI E (.at 21) = (k : Int) by simp only [X.evI, h21], show X.evI E (.slen 18) = (es.length : Int) by simp only [X.evI, h18]]
  exact decide_eq_true (by omega)
 ·show decide ((X.evS E (.at 42)).size + (X.evS E (.str [32])).size <= 9223372036854775807) = true
  rw [s42, s1]; exact decide_eq_true (by omega)
 ·show decide ((X.evS E t6A).size + (X.evS E (.at 41)).size <= 9223372036854775807) = true
  rw [sA, s41]; exact decide_eq_true (by omega)
 ·show decide ((X.evS E (.at 42)).size + (X.evS E (.at 41)).size <= 9223372036854775807) = true
  rw [s42, s41]; exact decide_eq_true (by omega)
 ·refine okX_el (m := 23) rfl fk hel fun _ L w' hw => ?_
  have e2 : (V.tup [xs 41, it 0]).den L E = .tuple #[.string (Lx.elT e), .int .i64 0] := by simp only [V.den, V.dens, xs, it, X.evS, h41]
  rw [e2]
  have q := xrtxn_is e.v hsz.v e.l e.n hsz.l false h6 w' M hw.1
  rw [hok] at q
  exact q
theorem t6_step {E0 : Nat -> Value} {b off : Nat} {es : List El} {k : Nat} (hk : k < es.length) (hn : es.length <= 300) :
  ∃ vs, t6R.at (rndE E0 21 (t6Rd b off es k)) = .tup (.int .i64 0 :: vs) /\ ∀ L, V.dens L (rndE E0 21 (t6Rd b off es k)) vs = V.dens L (rndE E0 21 (t6Rd b off es (k + 1))) t6Pat := by
 obtain ⟨E, hE⟩ : ∃ E, rndE E0 21 (t6Rd b off es k) = E := ⟨_, rfl⟩
 have h21 : E 21 = .int .i64 (k : Int) := hE ▸ rnd_k
 have h41 : E 41 = .string (Lx.elT (es.getD k default)) := hE ▸ rnd_tl 0
 have h42 : E 42 = .string (Lx.listT (es.take k)) := hE ▸ rnd_tl 1
 have f21 : rndE E0 21 (t6Rd b off es (k + 1)) 21 = .int .i64 ((k + 1 : Nat) : Int) := rnd_k
 have f42 : rndE E0 21 (t6Rd b off es (k + 1)) 42 = .string (Lx.listT (es.take (k + 1))) := rnd_tl 1
 have hs := listT_succ (List.getElem?_eq_getElem hk)
 rw [<- getD_of (List.getElem?_eq_getElem hk)] at hs
 rw [hE]
 clear hE
 have s41 : X.evS E (.at 41) = Lx.elT (es.getD k default) := by simp only [X.evS, h41]
 have s42 : X.evS E (.at 42) = Lx.listT (es.take k) := by simp only [X.evS, h42]
 have d : X.evB E (.lt (.int 0) (.at 21)) = decide (0 < k) := by
  show decide ((0 : Int) < X.evI E (.at 21)) = _
  rw [show X.evI E (.at 21) = (k : Int) by simp only [X.evI, h21]]
  exact decide_eq_decide.2 (by omega)
 have i1 : X.evI E (.add .i64 (.at 21) (.int 1)) = ((k + 1 : Nat) : Int) := by
  show IntKind.i64.wrap (X.evI E (.at 21) + 1) = _
  rw [show X.evI E (.at 21) = (k : Int) by simp only [X.evI, h21], wrap_k hk hn]
 by_cases h0 : 0 < k
 ·rw [if_pos h0] at hs
  refine ⟨[.ptr 10 0, .str [], it 0, .xs (.cat t6A (.at 41)), .xi .i64 (.add .i64 (.at 21) (.int 1))], ?_, fun L => ?_⟩
  ·show (bif X.evB E (.lt (.int 0) (.at 21)) then (t6Go (.cat t6A (.at 41))).at E else (t6Go (.cat (.at 42) (.at 41))).at E) = _
   rw [d, decide_eq_true h0]; rfl
  ·have q : X.evS E (.cat t6A (.at 41)) = Lx.listT (es.take (k + 1)) := by
    show (X.evS E (.at 42) ++ Go.Ex.bytes [32]) ++ X.evS E (.at 41) = _
    rw [s42, s41, hs]
   simp only [t6Pat, V.dens, V.den, xi, xs, it]
   rw [q, i1]
   simp only [X.evI, X.evS, f21, f42]
 ·rw [if_neg h0] at hs
  refine ⟨[.ptr 10 0, .str [], it 0, .xs (.cat (.at 42) (.at 41)), .xi .i64 (.add .i64 (.at 21) (.int 1))], ?_, fun L => ?_⟩
  ·show (bif X.evB E (.lt (.int 0) (.at 21)) then (t6Go (.cat t6A (.at 41))).at E else (t6Go (.cat (.at 42) (.at 41))).at E) = _
   rw [d, decide_eq_false h0]; rfl
  ·have q : X.evS E (.cat (.at 42) (.at 41)) = Lx.listT (es.take (k + 1)) := by
    show X.evS E (.at 42) ++ X.evS E (.at 41) = _
    rw [s42, s41, hs]
   simp only [t6Pat, V.dens, V.den, xi, xs, it]
   rw [q, i1]
   simp only [X.evI, X.evS, f21, f42]
theorem ok6_parts {v : Vl} {n : Nat} {lc : Bool} (h6 : v.k = 6) (h : Lx.okV v n lc = true) : n <= 300 /\ lc = false := by
 rw [okV_6 h6] at h
 simp only [Bool.and_eq_true, decide_eq_true_eq, Bool.not_eq_true'] at h
 exact h.1
theorem t6_loop {v : Vl} (h6 : v.k = 6) {es : List El} {b off c : Nat} {w : World} {M : Int} (hh : Holds w b off es) (hes : ∀ e ∈ es, e.Sz) :
  t6Loop.Ok Tryz.prog (envE (.int .i64 M :: t6E v (.slice (some ⟨b, off, none⟩) es.length c) (Lx.okV v es.length (Lx.badL es)) es)) nG w (nOf Tryz.f14) (subOf (bodyOf Tryz.f14) 1) := by
 intro hp
 have h0 : decide (chI (Lx.okV v es.length (Lx.badL es)) = 0) = true := hp.1
 rw [chI_zero] at h0
 obtain ⟨hn, hb⟩ := ok6_parts h6 h0
 obtain ⟨E0, hE0⟩ : ∃ E0, envE (.int .i64 M :: t6E v (.slice (some ⟨b, off, none⟩) es.length c) (Lx.okV v es.length (Lx.badL es)) es) = E0 := ⟨_, rfl⟩
 have h20 : E0 20 = .string (Lx.listT es) := hE0 ▸ rfl
 have f21 : ∀ k, rndE E0 21 (t6Rd b off es k) 21 = .int .i64 (k : Int) := fun k => rnd_k
 have f42 : ∀ k, rndE E0 21 (t6Rd b off es k) 42 = .string (Lx.listT (es.take k)) := fun k => rnd_tl 1
 refine loop_rk (pre := [(.eq (.at 19) (.int 0), true)]) (m := 21) Tryz.func14 (by kernel_rfl) (by kernel_rfl) run_t6r run_t6e es.length (t6Rd b off es) rfl (t6Rd_one b off hes) (by decide) t6_rows
  (fun k hk => (t6_round hh hes hb hn k hk).1) ⟨rfl, ?_, trivial⟩ (fun k hk => (t6_round hh hes hb hn k hk).2) (giv_flat trivial trivial) rfl rfl ?_ (fun k hk => t6_step hk hn) (by intro h; cases h) ⟨[.ptr 10 0, .str [], it 0, xs 42, xi 21], rfl, ?_⟩ hp
 ·exact decide_eq_false (show ¬ ((es.length : Int) < (es.length : Int)) by omega)
 ·rw [hE0]
  intro L
  simp only [t5Need, t6Pat, V.dens, V.den, xi, xs, it, X.evI, X.evS, f21, f42]
  rfl
 ·rw [hE0]
  intro L
  show V.dens L (rndE E0 21 (t6Rd b off es es.length)) [.ptr 10 0, .str [], it 0, xs 42] = V.dens L E0 t5Out
  simp only [t5Out, V.dens, V.den, xs, it, X.evS, f42, h20, List.take_length]
def t60T : Tree := .node (.eq (.at 19) (.int 0)) (.leaf (.tup [.str [], it 0])) rxN
theorem run_t60 : chk (runTr Tryz.prog nG (fun _ => none) gd moT [rxQ (it 6)] 100 14 [vaK 6 1 (.atom 18)] h0) t60T [(.isSl 18, true), (.lt (.int 0) (.slen 18), false)] = true := by decide +kernel
theorem rxQ6_ok {v : Vl} (h6 : v.k = 6) {l : Value} {es : List El} {w : World} {M : Int} {o : Bool} (hck : ∀ w', VK M w w' -> Calls Tryz.prog 18 #[v.val l] w' fun e w'' => e = .returned (.int .i64 (chI o)) /\ Below w'.heap.size w' w'') : CallX.Ok Tryz.prog (envE (.int .i64 M :: t6E v l o es)) (VK M w) (rxQ (it 6)) := by
 refine ⟨rfl, fk, fun _ L w' hV' => ?_⟩
 have e1 : V.dens L (envE (.int .i64 M :: t6E v l o es)) (rxQ (it 6)).args = [v.val l] := by rw [show it 6 = V.int .i64 v.k by rw [h6]; rfl]; rfl
 show Calls _ _ (V.dens L (envE (.int .i64 M :: t6E v l o es)) (rxQ (it 6)).args).toArray w' fun x w'' => x = .returned (.int .i64 (chI o)) /\ Below w'.heap.size w' w''
 rw [e1]
 exact hck w' hV'
theorem xrtx6_is (v : Vl) (h6 : v.k = 6) (l : Value) (es : List El) (w : World) (hl : Lst w l es) (hes : ∀ e ∈ es, e.Sz) (M : Int) (hV : Vars M w) : Calls Tryz.prog 14 #[v.val l] w fun e w' => e = .returned (okT (Lx.okV v es.length (Lx.badL es)) (Lx.listT es)) /\ Below w.heap.size w w' := by
 have hsl := hl.slice
 have hck : ∀ w', VK M w w' -> Calls Tryz.prog 18 #[v.val l] w' fun e w'' => e = .returned (.int .i64 (chI (Lx.okV v es.length (Lx.badL es)))) /\ Below w'.heap.size w' w'' := fun w' hw => xrck6_is v h6 l es w' (hl.keep hw.2) hes M hw.1
 have hone : (t6E v l (Lx.okV v es.length (Lx.badL es)) es).all Value.oneCell' = true := vE_one v l _ hsl _ rfl
 have hs : X.evB (envE (.int .i64 M :: t6E v l (Lx.okV v es.length (Lx.badL es)) es)) (.isSl 18) = true := isSl_ok hsl rfl
 have hav : (V.dens L0 (envE (.int .i64 M :: t6E v l (Lx.okV v es.length (Lx.badL es)) es)) [vaK 6 1 (.atom 18)]).toArray = #[v.val l] := by
  unfold vaK; rw [show it 6 = V.int .i64 v.k by rw [h6]; rfl]; rfl
 have c1 := rxQ6_ok h6 (es := es) hck
 rcases hl with ⟨rfl, a, c, rfl⟩ | ⟨b, off, c, rfl, hh⟩
 ·have a3 : (t60T.at (envE (.int .i64 M :: t6E v (.slice a 0 c) (Lx.okV v 0 (Lx.badL [])) []))).den L0 (envE (.int .i64 M :: t6E v (.slice a 0 c) (Lx.okV v 0 (Lx.badL [])) [])) = okT (Lx.okV v 0 (Lx.badL [])) (Lx.listT []) := by
   have e : t60T.at (envE (.int .i64 M :: t6E v (.slice a 0 c) (Lx.okV v 0 (Lx.badL [])) [])) = bif decide (chI (Lx.okV v 0 (Lx.badL [])) = 0) then V.tup [.str [], it 0] else .tup [.str [], it 2] := rfl
   rw [e, chI_zero]
   cases Lx.okV v 0 (Lx.badL []) <;> rfl
  have hn : X.evB (envE (.int .i64 M :: t6E v (.slice a 0 c) (Lx.okV v 0 (Lx.badL [])) [])) (.lt (.int 0) (.slen 18)) = false := by
   show decide ((0 : Int) < X.evI (envE (.int .i64 M :: t6E v (.slice a 0 c) (Lx.okV v 0 (Lx.badL [])) [])) (.slen 18)) = false
   rw [show X.evI (envE (.int .i64 M :: t6E v (.slice a 0 c) (Lx.okV v 0 (Lx.badL [])) [])) (.slen 18) = 0 from rfl]; rfl
  exact tree_rk run_t60 ⟨c1, trivial⟩ hone ⟨hs, hn, trivial⟩ rfl hav a3 hV
 ·have a3 : (t5T.at (envE (.int .i64 M :: t6E v (.slice (some ⟨b, off, none⟩) es.length c) (Lx.okV v es.length (Lx.badL es)) es))).den L0 (envE (.int .i64 M :: t6E v (.slice (some ⟨b, off, none⟩) es.length c) (Lx.okV v es.length (Lx.badL es)) es)) = okT (Lx.okV v es.length (Lx.badL es)) (Lx.listT es) := by
   have e : t5T.at (envE (.int .i64 M :: t6E v (.slice (some ⟨b, off, none⟩) es.length c) (Lx.okV v es.length (Lx.badL es)) es)) = bif decide (chI (Lx.okV v es.length (Lx.badL es)) = 0) then V.tup [xs 20, it 0] else .tup [.str [], it 2] := rfl
   rw [e, chI_zero]
   cases Lx.okV v es.length (Lx.badL es) <;> rfl
  refine lp_rk Tryz.func14 (by kernel_rfl) run_t6 ⟨⟨c1, trivial⟩, trivial, fun i xs a hm hsub x hx => ?_⟩ hone ⟨hs, trivial⟩ rfl hav a3 hV
  simp only [List.mem_cons, List.not_mem_nil, or_false, Prod.mk.injEq] at hm
  obtain ⟨rfl, rfl⟩ := hm
  simp only [List.mem_cons, List.not_mem_nil, or_false] at hx
  subst hx
  have : a = subOf (bodyOf Tryz.f14) 1 := by unfold subOf; rw [hsub]; rfl
  rw [this]
  exact t6_loop h6 hh hes
section
variable {ops : Array Oper} {o : Oper} {a : Act} {w : World} {Q : Exit -> Act -> World -> Prop} {rest : List Oper}
theorem wl_loadE {b off k : Nat} {es : List El} {e : El} {ec : Array Value} (hh : Holds w b off es) (he : es[k]? = some e) (hec : e.enc.toArray = ec) (hw : Region.wanted o (yielded ops a.tmps) = true) (x : Operand) (ho : o.op = .load 29 x) (hx : a.eval x = .pointer (some ⟨b, off + k * 18, none⟩))
  (h : wpList Tryz.prog ops Q rest (a.put o.dst (.agg ec)) w) : wpList Tryz.prog ops Q (o :: rest) a w := by
 obtain ⟨d, hu, hd⟩ := aggT_und (t := 29) (n := 18) (by kernel_rfl)
 exact wl_of hw fun _ hK => wp_load_mid 29 x ho b (off + k * 18) hx e.enc d (hh.range he) hu hd (aggT_size (t := 29) (n := 18) (by kernel_rfl)) (by rw [hec]; exact hK _ _ h)
end
theorem zero_va29 : (Tryz.prog.info? 29).bind (·.zero) = some (.agg (vE Lx.zero nilL).toArray) := by kernel_rfl
theorem run_tx60 : chk (runTr Tryz.prog nG (fun _ => none) gd moT [] 100 31 [vaK 6 1 (.atom 18)] h0) (.leaf (.str [])) [(.isSl 18, true), (.lt (.int 0) (.slen 18), false)] = true := by decide +kernel
theorem xtext6_ne (v : Vl) (h6 : v.k = 6) (es : List El) (b off c : Nat) (w : World) (hh : Holds w b off es) (hes : ∀ e ∈ es, e.Sz) (hb : Lx.badL es = false) (hn : es.length <= 300) (M : Int) (hV : Vars M w) :
  Calls Tryz.prog 31 #[v.val (.slice (some ⟨b, off, none⟩) es.length c)] w fun e w' => e = .returned (.string (Lx.listT es)) /\ Below w.heap.size w w' := by
 obtain ⟨i9, hi, hz0, hz1, hz2⟩ := info_parts Tryz.info9
 obtain ⟨cs, hcs⟩ : ∃ cs, (v.list ++ [Value.slice (some ⟨b, off, none⟩) es.length c]).toArray = cs := ⟨_, rfl⟩
 have hc0 : cs[0]? = some (.int .i64 6) := by rw [<- hcs, <- h6]; rfl
 have hc17 : cs[17]? = some (.slice (some ⟨b, off, none⟩) es.length c) := by rw [<- hcs]; rfl
 obtain ⟨zs, hzs⟩ : ∃ zs, (vE Lx.zero nilL).toArray = zs := ⟨_, rfl⟩
 have hzv := zero_va29
 rw [hzs] at hzv
 have hzsz : zs.size = 18 := by rw [<- hzs]; rfl
 have hT : (Lx.listT es).size <= es.length * 200001 := by have := listT_size hes hb es.length; rwa [List.take_length] at this
 have hT3 : es.length * 200001 <= 300 * 200001 := Nat.mul_le_mul_right _ hn
 unfold Vl.val
 rw [hcs]
 clear hcs hzs
 go_enter Tryz.func31, Tryz.ntmps31
 go_upto_region 24 with (first
  | (refine wl_boxA rfl _ rfl rfl (fun W1 b1 hb1 => ?_); have hB1 := hb1; clear hb1)
  | (refine wl_loadC b1 rfl (by kernel_rfl) _ rfl (j := 0) (v := .int .i64 6) rfl hc0 ?_)
  | (refine wl_loadC b1 rfl (by kernel_rfl) _ rfl (j := 17) (v := .slice (some ⟨b, off, none⟩) es.length c) rfl hc17 ?_))
 go_loopw [10, 62] (fun u i wr => ∃ k : Nat, k <= es.length /\ i = .int .i64 (k : Int) /\ wr.ownsRow w.heap.size 9 1 u k (((es.take k).map Lx.elT).map Value.string) /\ Below w.heap.size w wr) (fun _ i _ => es.length - (intOf i).toNat)
 case atStart => exact ⟨0, Nat.zero_le _, rfl, ⟨rfl, .inl ⟨rfl, rfl⟩⟩, hB1⟩
 case round =>
  clear b1 hB1 hc0 hc17
  obtain ⟨k, hk, rfl, hown, hB⟩ := hrel
  by_cases hlt : k < es.length
  ·have he : es[k]? = some es[k] := List.getElem?_eq_getElem hlt
   have hsz := hes es[k] (List.getElem_mem hlt)
   have hg : Lx.badE es[k] = false := List.any_eq_false.1 hb _ (List.getElem_mem hlt) |> fun h => by simpa using h
   have HS := Lib.hid (show (es.take (k + 1)).map Lx.elT = (es.take k).map Lx.elT ++ [Lx.elT es[k]] by rw [List.take_succ_eq_append_getElem hlt, List.map_append]; rfl)
   obtain ⟨e, hee⟩ : ∃ e, es[k] = e := ⟨_, rfl⟩
   rw [hee] at he hsz hg HS
   clear hee
   obtain ⟨h6', hok⟩ := bad_no hg
   have hkind : e.v.k = 1 \/ e.v.k = 2 \/ e.v.k = 3 \/ e.v.k = 4 \/ e.v.k = 5 := by
    rcases okV_kind hok with q | q | q | q | q | q
    ·exact .inl q
    ·exact .inr (.inl q)
    ·exact .inr (.inr (.inl q))
    ·exact .inr (.inr (.inr (.inl q)))
    ·exact .inr (.inr (.inr (.inr q)))
    ·exact absurd q h6'
   have hcall : ∀ W, Vars M W -> Calls Tryz.prog 31 #[.agg e.enc.toArray] W fun r W' => r = .returned (.string (Lx.elT e)) /\ Below W.heap.size W W' := fun W hW => xtexts_is e.v hsz.v hkind e.l e.n hsz.l W M hW
   have hone : e.enc.all Value.oneCell' = true := by
    have q := vE_one e.v e.l e.n hsz.l [] rfl
    rwa [List.append_nil] at q
   obtain ⟨ec, hec⟩ : ∃ ec, e.enc.toArray = ec := ⟨_, rfl⟩
   have hesz : ec.size = 18 := by rw [<- hec]; rfl
   have hone' : ec.toList.all (·.oneCell') = true := by rw [<- hec]; exact hone
   rw [hec] at hcall
   have hhw : Holds wr b off es := hh.keep ⟨hB.size, fun j hj => hB.block j hj⟩
   have hVw : Vars M wr := hV.next hB
   obtain ⟨xt, hxt⟩ : ∃ xt, Lx.elT e = xt := ⟨_, rfl⟩
   rw [hxt] at hcall HS
   clear hone h6' hok hkind hg hxt
   have tok1 : True := trivial
   go_wp2_with (first
    | (refine wl_loadE hhw he hec rfl _ rfl rfl ?_)
    | (refine wl_allocA rfl hzv rfl (fun W2 b2 hb2 => ?_); have hB2 := hb2; clear hb2)
    | (refine wl_storeA b2 rfl _ _ rfl rfl rfl (by rw [hesz]; kernel_rfl) (by rw [hesz, hzsz]) hone' rfl (fun W3 b3 hg3 => ?_); have hB3 := hB2.grown hg3 hB2.size (fun i e => by cases e; exact Nat.le_refl _); clear b2 hB2 hg3)
    | (refine wl_loadA b3 rfl (by rw [hesz]; kernel_rfl) _ rfl rfl ?_)
    | (go_at_call 31; have _t := tok1; refine (hcall _ (hVw.next hB3)).mono ?_; rintro r W4 ⟨rfl, hb4⟩; have hB4 := below_step hB3 hb4; have hown4 := own_below hown hB4; have hs4 := Nat.le_trans hB.size hB4.size; clear tok1 _t hB3 hb4)
    | (at_builtin; go_must (refine wpList_append_own _ rfl _ _ 81 rfl w.heap.size 9 i9 (.string ⟨#[]⟩) 1 16 Tryz.underlying81 hi hz0 hz1 hz2 rfl (by decide) _ k _ rfl (hown4.alloc _) ⟨W4.heap.size, 0, none⟩ 1 1 [.string xt] rfl rfl (cell_one_new _ _ _) (by simp [Value.oneCell']) (by unfold maxLen; omega) (by omega) (by simp; omega) ?_); intro v' w2 hown2 hgrow _))
   go_roundw
   case rel =>
    have hgr := grownBy_alloc hgrow
    refine ⟨k + 1, by omega, by simp, ?_, (hB.trans (hB4.mono hB.size)).grown hgr hs4 (fun i e => ?_)⟩
    ·rw [HS.out, List.map_append]; exact hown2
    ·exact (Nat.lt_or_ge i w.heap.size).elim (fun hi => absurd e.symm (row_ge hown i hi)) (fun h => h)
   case measure => simp [intOf]; omega
  ·have hk' : k = es.length := by omega
   subst hk'
   rw [List.take_length] at hown
   have hlen : (Lib.join ((es.map Lx.elT).map (·.data.toList)) [32]).length <= 140737488355328 := by
    have : (Lx.listT es).size = (Lib.join ((es.map Lx.elT).map (·.data.toList)) [32]).length := rfl
    omega
   have hlw : (es.map Lx.elT).length = es.length := List.length_map ..
   rw [<- hlw] at hown
   have HF : Hid (∀ bs : ByteArray, bs = ⟨(Lib.join ((es.map Lx.elT).map (·.data.toList)) [32]).toArray⟩ -> bs = Lx.listT es) := Lib.hid (fun bs h => h)
   obtain ⟨ws, hws⟩ : ∃ ws, es.map Lx.elT = ws := ⟨_, rfl⟩
   rw [hws] at hown hlen HF hlw
   clear hws
   go_wp2_with (go_at_call 51; refine (f43_any ws _ w.heap.size _ (by omega) hlen hown).mono ?_; rintro e w6 ⟨⟨bs, rfl, hbs⟩, hb6⟩; have HB : Hid _ := Lib.hid hbs; clear hbs)
   go_ret
   go_light
   exact ⟨by rw [HF.out bs HB.out]; rfl, hB.trans (hb6.mono hB.size)⟩
theorem xtext6_is (v : Vl) (h6 : v.k = 6) (l : Value) (es : List El) (w : World) (hl : Lst w l es) (hes : ∀ e ∈ es, e.Sz) (hb : Lx.badL es = false) (hn : es.length <= 300) (M : Int) (hV : Vars M w) :
  Calls Tryz.prog 31 #[v.val l] w fun e w' => e = .returned (.string (Lx.listT es)) /\ Below w.heap.size w w' := by
 rcases hl with ⟨rfl, a, c, rfl⟩ | ⟨b, off, c, rfl, hh⟩
 ·have hn : X.evB (envE (.int .i64 M :: (vE v (.slice a 0 c) ++ []))) (.lt (.int 0) (.slen 18)) = false := by
   show decide ((0 : Int) < X.evI (envE (.int .i64 M :: (vE v (.slice a 0 c) ++ []))) (.slen 18)) = false
   rw [show X.evI (envE (.int .i64 M :: (vE v (.slice a 0 c) ++ []))) (.slen 18) = 0 from rfl]; rfl
  exact tree_rv (env := vE v (.slice a 0 c) ++ []) run_tx60 trivial rfl ⟨rfl, hn, trivial⟩ rfl (by rw [<- h6]; rfl) rfl hV
 ·exact xtext6_ne v h6 es b off c w hh hes hb hn M hV

theorem get_bts (s : ByteArray) (i k : Nat) : (s.get! (i + k)).toNat = ((bts s).drop i).getD k 0 := by
 rw [List.getD_eq_getElem?_getD, List.getElem?_drop]
 unfold bts
 rw [List.getElem?_map]
 show (s.data[i + k]!).toNat = _
 rw [Array.getElem!_eq_getD, Array.getD_eq_getD_getElem?, Array.getElem?_toList]
 cases s.data[i + k]? <;> rfl
theorem dec_model {s : ByteArray} {i c n : Nat} (h : Ch.dec ((bts s).drop i) = some (c, n)) : Utf8.decode s i = (c, n) := by
 obtain ⟨hr, hv, hl⟩ := Ch.dec_some h
 have hg : ∀ k, (s.get! (i + k)).toNat = ((bts s).drop i).getD k 0 := get_bts s i
 have hlen : ((bts s).drop i).length = s.size - i := by rw [List.length_drop, bts_length]
 obtain ⟨l, hll⟩ : ∃ l, (bts s).drop i = l := ⟨_, rfl⟩
 rw [hll] at hr hg hlen
 have h0 := hg 0
 have h1 := hg 1
 have h2 := hg 2
 have h3 := hg 3
 unfold Utf8.decode
 simp only [h0, h1, h2, h3]
 unfold Ch.raw at hr
 unfold Ch.lenN at hl
 have hval : 0x800 <= c -> Utf8.valid (c : Int) = true := fun _ => by
  unfold Ch.valid at hv
  unfold Utf8.valid
  simp only [Bool.or_eq_true, Bool.and_eq_true, decide_eq_true_eq] at hv ⊢
  omega
 by_cases e0 : l.length = 0
 ·rw [if_pos e0] at hr; cases hr
 rw [if_neg e0] at hr
 by_cases e1 : l.getD 0 0 < 128
 ·rw [if_pos e1] at hr
  simp only [Option.some.injEq, Prod.mk.injEq] at hr
  rw [if_pos e1, hr.1, hr.2]
 rw [if_neg e1] at hr ⊢
 by_cases e2 : l.getD 0 0 < 192
 ·rw [if_pos e2] at hr; cases hr
 rw [if_neg e2] at hr
 by_cases e3 : l.getD 0 0 < 224
 ·rw [if_pos e3] at hr
  split at hr
  ·rename_i q
   obtain ⟨q1, q2, q3⟩ := q
   simp only [Option.some.injEq, Prod.mk.injEq] at hr
   obtain ⟨hc', rfl⟩ := hr
   have hc : ¬ c < 128 := fun hc => by rw [if_pos hc] at hl; omega
   have e : l.getD 0 0 % 32 * 64 + l.getD 1 0 % 64 = c := by omega
   rw [if_pos (by simp only [Bool.and_eq_true, decide_eq_true_eq, beq_iff_eq]; omega), e, if_pos (by omega)]
  ·cases hr
 rw [if_neg e3] at hr
 rw [if_neg (by simp only [Bool.and_eq_true, decide_eq_true_eq, beq_iff_eq]; omega)]
 by_cases e4 : l.getD 0 0 < 240
 ·rw [if_pos e4] at hr
  split at hr
  ·rename_i q
   obtain ⟨q1, q2, q3, q4, q5⟩ := q
   simp only [Option.some.injEq, Prod.mk.injEq] at hr
   obtain ⟨hc', rfl⟩ := hr
   have hc : ¬ c < 2048 := fun hc => by
    by_cases h128 : c < 128
    ·rw [if_pos h128] at hl; omega
    ·rw [if_neg h128, if_pos hc] at hl; omega
   have e : l.getD 0 0 % 16 * 4096 + l.getD 1 0 % 64 * 64 + l.getD 2 0 % 64 = c := by omega
   rw [if_pos (by simp only [Bool.and_eq_true, decide_eq_true_eq, beq_iff_eq]; omega), e, if_pos (by rw [hval (by omega)]; simp only [Bool.and_true, decide_eq_true_eq]; omega)]
  ·cases hr
 rw [if_neg e4] at hr
 rw [if_neg (by simp only [Bool.and_eq_true, decide_eq_true_eq, beq_iff_eq]; omega)]
 by_cases e5 : l.getD 0 0 < 248
 ·rw [if_pos e5] at hr
  split at hr
  ·rename_i q
   obtain ⟨q1, q2, q3, q4, q5, q6, q7⟩ := q
   simp only [Option.some.injEq, Prod.mk.injEq] at hr
   obtain ⟨hc', rfl⟩ := hr
   have hc : ¬ c < 65536 := fun hc => by
    by_cases h128 : c < 128
    ·rw [if_pos h128] at hl; omega
    ·rw [if_neg h128] at hl
     by_cases h2048 : c < 2048
     ·rw [if_pos h2048] at hl; omega
     ·rw [if_neg h2048, if_pos hc] at hl; omega
   have e : l.getD 0 0 % 8 * 262144 + l.getD 1 0 % 64 * 4096 + l.getD 2 0 % 64 * 64 + l.getD 3 0 % 64 = c := by omega
   rw [if_pos (by simp only [Bool.and_eq_true, decide_eq_true_eq, beq_iff_eq]; omega), e, if_pos (by rw [hval (by omega)]; simp only [Bool.and_true, decide_eq_true_eq]; omega)]
  ·cases hr
 rw [if_neg e5] at hr; cases hr
theorem count_items (s : ByteArray) : ∀ (f i : Nat), s.size <= i + f -> (∀ x ∈ Ch.items (f + 1) ((bts s).drop i) i, 0 <= x.2) -> Lib.runeCountFrom s f i = (Ch.items (f + 1) ((bts s).drop i) i).length
 | 0, i, h, _ => by
  rw [items_end 1 i (bts s) (by rw [bts_length]; omega)]; rfl
 | f + 1, i, h, hall => by
  by_cases hlt : i < s.size
  ·have hne : (bts s).drop i ≠ [] := fun h0 => by
    have := congrArg List.length h0
    rw [List.length_drop, bts_length] at this
    simp only [List.length_nil] at this
    omega
   unfold Lib.runeCountFrom
   rw [if_pos hlt]
   unfold Ch.items at hall ⊢
   rw [if_neg hne] at hall ⊢
   cases hd : Ch.dec ((bts s).drop i) with
   | none =>
    rw [hd] at hall
    have := hall (i, -1) (List.mem_cons_self ..)
    exact absurd this (show ¬ ((0 : Int) <= -1) by decide)
   | some p =>
    obtain ⟨c, n⟩ := p
    rw [hd] at hall
    have hn := (Ch.dec_le hd).1
    have ih := count_items s f (i + n) (by omega) (fun x hx => hall x (List.mem_cons_of_mem _ (by rw [List.drop_drop]; exact hx)))
    rw [dec_model hd, ih, List.length_cons, List.drop_drop]
    omega
  ·rw [items_end _ i (bts s) (by rw [bts_length]; omega), Lib.runeCountFrom_end s _ _ hlt]; rfl
theorem runes_size (s : ByteArray) : ∀ (f i : Nat) (acc : Array Value), (Conv.runesFrom s f i acc).size = acc.size + Lib.runeCountFrom s f i
 | 0, _, acc => rfl
 | f + 1, i, acc => by
  unfold Conv.runesFrom Lib.runeCountFrom
  by_cases h : i < s.size
  ·rw [if_pos h, if_pos h]
   show (Conv.runesFrom s f (i + (Utf8.decode s i).2) (acc.push _)).size = _
   rw [runes_size s f, Array.size_push]
   omega
  ·rw [if_neg h, if_neg h]; rfl
theorem runes_items {s : ByteArray} (h : wrongI s = -1) : (Conv.runesFrom s s.size 0 #[]).size = (items s).length := by
 rw [runes_size, count_items s s.size 0 (by omega) (fun x hx => ?_)]
 ·rw [List.drop_zero]; exact Nat.zero_add _
 ·rw [List.drop_zero] at hx
  unfold wrongI at h
  cases hf : (items s).find? (fun x => decide (x.2 < 0)) with
  | some y =>
   rw [hf] at h
   have h : (y.1 : Int) = -1 := h
   omega
  | none =>
   have q := List.find?_eq_none.1 hf x hx
   simp only [decide_eq_true_eq] at q
   omega
section
variable {ops : Array Oper} {o : Oper} {a : Act} {w : World} {Q : Exit -> Act -> World -> Prop} {rest : List Oper}
theorem wl_runes {t : ByteArray} (ht : t.size <= 100000) (hw : Region.wanted o (yielded ops a.tmps) = true) (x : Operand) (ho : o.op = .convert 9 49 x) (hx : a.eval x = .string t)
  (h : ∀ cap W, Below w.heap.size w W -> wpList Tryz.prog ops Q rest (a.put o.dst (.slice (some ⟨w.heap.size, 0, none⟩) (Conv.runesFrom t t.size 0 #[]).size cap)) W) : wpList Tryz.prog ops Q (o :: rest) a w := by
 have hn := size_runesFrom t t.size 0 #[]
 have hr := run_runes_of_string (P := Tryz.prog) w 9 49 21 t Tryz.underlying9 Tryz.underlying49 Tryz.underlying21 (by simp only [List.size_toArray, List.length_nil] at hn; omega)
 refine wl_of hw fun K hK => ?_
 unfold Oper.wp execOp
 simp only [ho, hx, Sem.run_bind, Sem.run_pure, Result.andThen_ok, hr]
 exact hK _ _ (h _ _ ⟨rfl, rfl, rfl, by simp, fun k hk => by rw [Lib.alloc_old w.drew _ k hk]; rfl⟩)
end
theorem xplen1_is (v : Vl) (h1 : v.k = 1) (hv : v.Sz) (l : Value) (n : Nat) (o : Bool) (ho : o = true -> wrongI v.t = -1) (w : World) (M : Int) (hck : ∀ w', VK M w w' -> Calls Tryz.prog 17 #[v.val l] w' fun e w'' => e = .returned (.int .i64 (chI o)) /\ Below w'.heap.size w' w'') (hV : Vars M w) :
  Calls Tryz.prog 15 #[v.val l] w fun e w' => e = .returned (lenV o v n (items v.t).length) /\ Below w.heap.size w w' := by
 obtain ⟨cs, hcs⟩ : ∃ cs, (v.list ++ [l]).toArray = cs := ⟨_, rfl⟩
 have hc0 : cs[0]? = some (.int .i64 1) := by rw [<- hcs, <- h1]; rfl
 have hc1 : cs[1]? = some (.string v.t) := by rw [<- hcs]; rfl
 have hsz : cs.size = 18 := by rw [<- hcs]; rfl
 have ht := hv.t
 have hck2 : ∀ w', VK M w w' -> Calls Tryz.prog 17 #[.agg cs] w' fun e w'' => e = .returned (.int .i64 (chI o)) /\ Below w'.heap.size w' w'' := by
  rw [<- hcs]; exact hck
 unfold Vl.val
 rw [hcs]
 clear hck hcs
 have tok1 : True := trivial
 cases o with
 | false =>
  have hc2 : chI false = 2 := rfl
  rw [hc2] at hck2
  have e1 : lenV false v n (items v.t).length = .tuple #[.int .i64 0, .int .i64 2] := rfl
  rw [e1]
  go_enter Tryz.func15, Tryz.ntmps15
  go_wp2_with (first
   | (refine wl_boxA rfl _ rfl rfl (fun W1 b1 hb1 => ?_); have hB1 := hb1; clear hb1)
   | (refine wl_loadA b1 rfl (by rw [hsz]; kernel_rfl) _ rfl rfl ?_)
   | (go_at_call 17; have _t := tok1; refine (hck2 _ ⟨hV.next hB1, hB1.size, fun k hk => hB1.block k hk⟩).mono ?_; rintro e W2 ⟨rfl, hb2⟩; have hB2 := below_step hB1 hb2; clear tok1 _t hb2))
  go_ret2
  exact ⟨rfl, hB2⟩
 | true =>
  have hc2 : chI true = 0 := rfl
  rw [hc2] at hck2
  have e1 : lenV true v n (items v.t).length = .tuple #[.int .i64 ((items v.t).length : Int), .int .i64 0] := by unfold lenV; rw [cond_true, if_pos h1]
  rw [e1, <- runes_items (ho rfl)]
  obtain ⟨q, hq⟩ : ∃ q, (Conv.runesFrom v.t v.t.size 0 #[]).size = q := ⟨_, rfl⟩
  go_enter Tryz.func15, Tryz.ntmps15
  go_wp2_with (first
   | (refine wl_boxA rfl _ rfl rfl (fun W1 b1 hb1 => ?_); have hB1 := hb1; clear hb1)
   | (refine wl_loadA b1 rfl (by rw [hsz]; kernel_rfl) _ rfl rfl ?_)
   | (go_at_call 17; have _t := tok1; refine (hck2 _ ⟨hV.next hB1, hB1.size, fun k hk => hB1.block k hk⟩).mono ?_; rintro e W2 ⟨rfl, hb2⟩; have hB2 := below_step hB1 hb2; have b2 := b1.keep hb2; clear tok1 _t b1 hb2)
   | (refine wl_loadC b2 rfl (by kernel_rfl) _ rfl (j := 0) (v := .int .i64 1) rfl hc0 ?_)
   | (refine wl_loadC b2 rfl (by kernel_rfl) _ rfl (j := 1) (v := .string v.t) rfl hc1 ?_)
   | (refine wl_runes ht rfl _ rfl rfl (fun cap W3 hb3 => ?_); have hB3 := below_step hB2 hb3; clear hb3; rw [hq]))
  go_ret2
  rw [hq]
  exact ⟨rfl, hB3⟩
theorem xrlen1_is (v : Vl) (h1 : v.k = 1) (hv : v.Sz) (l : Value) (n : Nat) (o : Bool) (ho : o = true -> wrongI v.t = -1) (w : World) (M : Int) (hck : ∀ w', VK M w w' -> Calls Tryz.prog 18 #[v.val l] w' fun e w'' => e = .returned (.int .i64 (chI o)) /\ Below w'.heap.size w' w'') (hV : Vars M w) :
  Calls Tryz.prog 16 #[v.val l] w fun e w' => e = .returned (lenV o v n (items v.t).length) /\ Below w.heap.size w w' := by
 obtain ⟨cs, hcs⟩ : ∃ cs, (v.list ++ [l]).toArray = cs := ⟨_, rfl⟩
 have hc0 : cs[0]? = some (.int .i64 1) := by rw [<- hcs, <- h1]; rfl
 have hc1 : cs[1]? = some (.string v.t) := by rw [<- hcs]; rfl
 have hsz : cs.size = 18 := by rw [<- hcs]; rfl
 have ht : v.t.size <= 1000000 := by have := hv.t; omega
 have hck2 : ∀ w', VK M w w' -> Calls Tryz.prog 18 #[.agg cs] w' fun e w'' => e = .returned (.int .i64 (chI o)) /\ Below w'.heap.size w' w'' := by
  rw [<- hcs]; exact hck
 unfold Vl.val
 rw [hcs]
 clear hck hcs
 have tok1 : True := trivial
 cases o with
 | false =>
  have hc2 : chI false = 2 := rfl
  rw [hc2] at hck2
  have e1 : lenV false v n (items v.t).length = .tuple #[.int .i64 0, .int .i64 2] := rfl
  rw [e1]
  go_enter Tryz.func16, Tryz.ntmps16
  go_wp2_with (first
   | (refine wl_boxA rfl _ rfl rfl (fun W1 b1 hb1 => ?_); have hB1 := hb1; clear hb1)
   | (refine wl_loadA b1 rfl (by rw [hsz]; kernel_rfl) _ rfl rfl ?_)
   | (go_at_call 18; have _t := tok1; refine (hck2 _ ⟨hV.next hB1, hB1.size, fun k hk => hB1.block k hk⟩).mono ?_; rintro e W2 ⟨rfl, hb2⟩; have hB2 := below_step hB1 hb2; clear tok1 _t hb2))
  go_ret2
  exact ⟨rfl, hB2⟩
 | true =>
  have hc2 : chI true = 0 := rfl
  rw [hc2] at hck2
  have e1 : lenV true v n (items v.t).length = .tuple #[.int .i64 ((items v.t).length : Int), .int .i64 0] := by unfold lenV; rw [cond_true, if_pos h1]
  rw [e1]
  have hw0 := ho rfl
  have hdec : ∀ W, Calls Tryz.prog 26 #[.string v.t] W fun e W' => (∃ a cap, e = .returned (.tuple #[.slice a (items v.t).length cap, .int .i64 0, .int .i64 0])) /\ Below W.heap.size W W' := fun W => by
   refine (f25_any v.t ht W).mono fun e W' h => ?_
   obtain ⟨⟨u, _, rfl, hr⟩ | ⟨h0, _⟩, hb⟩ := h
   ·obtain ⟨a, cap, rfl⟩ := row_slice hr
    exact ⟨⟨a, cap, rfl⟩, hb⟩
   ·omega
  obtain ⟨q, hq⟩ : ∃ q, (items v.t).length = q := ⟨_, rfl⟩
  rw [hq] at hdec ⊢
  clear ho hw0
  go_enter Tryz.func16, Tryz.ntmps16
  go_wp2_with (first
   | (refine wl_boxA rfl _ rfl rfl (fun W1 b1 hb1 => ?_); have hB1 := hb1; clear hb1)
   | (refine wl_loadA b1 rfl (by rw [hsz]; kernel_rfl) _ rfl rfl ?_)
   | (go_at_call 18; have _t := tok1; refine (hck2 _ ⟨hV.next hB1, hB1.size, fun k hk => hB1.block k hk⟩).mono ?_; rintro e W2 ⟨rfl, hb2⟩; have hB2 := below_step hB1 hb2; have b2 := b1.keep hb2; clear tok1 _t b1 hb2)
   | (refine wl_loadC b2 rfl (by kernel_rfl) _ rfl (j := 0) (v := .int .i64 1) rfl hc0 ?_)
   | (refine wl_loadC b2 rfl (by kernel_rfl) _ rfl (j := 1) (v := .string v.t) rfl hc1 ?_)
   | (go_at_call 26; refine (hdec _).mono ?_; rintro e W3 ⟨⟨a, cap, rfl⟩, hb3⟩; have hB3 := below_step hB2 hb3; clear hb3))
  go_ret2
  exact ⟨rfl, hB3⟩

def lvP : Fx := [(.at 19, false)]
def lvC : List CallX := [⟨8, [], [], .bool true⟩, ⟨12, [vaV 1 (.atom 18)], [], xb 19⟩, ⟨13, [vaV 1 (.atom 18)], lvP, .tup [xs 20, xi 21]⟩, ⟨14, [vaV 1 (.atom 18)], lvP, .tup [xs 20, xi 21]⟩, ⟨15, [vaV 1 (.atom 18)], lvP, .tup [xi 22, xi 23]⟩, ⟨16, [vaV 1 (.atom 18)], lvP, .tup [xi 22, xi 23]⟩, ⟨17, [vaV 1 (.atom 18)], lvP, xi 24⟩, ⟨18, [vaV 1 (.atom 18)], lvP, xi 24⟩]
theorem run_lv : chk (runTr Tryz.prog nG (fun _ => none) gd moT lvC 100 4 [vaV 1 (.atom 18)] h0) (.node (.at 19) yesT yesT) [(.isSl 18, true)] = true := by decide +kernel
structure Both (M : Int) (w : World) (v : Vl) (l : Value) (o : Bool) (t : ByteArray) (n c : Nat) : Prop where
 pck : ∀ w', VK M w w' -> Calls Tryz.prog 17 #[v.val l] w' fun e w'' => e = .returned (.int .i64 (chI o)) /\ Below w'.heap.size w' w''
 rck : ∀ w', VK M w w' -> Calls Tryz.prog 18 #[v.val l] w' fun e w'' => e = .returned (.int .i64 (chI o)) /\ Below w'.heap.size w' w''
 ptx : ∀ w', VK M w w' -> Calls Tryz.prog 13 #[v.val l] w' fun e w'' => e = .returned (okT o t) /\ Below w'.heap.size w' w''
 rtx : ∀ w', VK M w w' -> Calls Tryz.prog 14 #[v.val l] w' fun e w'' => e = .returned (okT o t) /\ Below w'.heap.size w' w''
 pln : ∀ w', VK M w w' -> Calls Tryz.prog 15 #[v.val l] w' fun e w'' => e = .returned (lenV o v n c) /\ Below w'.heap.size w' w''
 rln : ∀ w', VK M w w' -> Calls Tryz.prog 16 #[v.val l] w' fun e w'' => e = .returned (lenV o v n c) /\ Below w'.heap.size w' w''
theorem vk_trans {M : Int} {a b c : World} (h : VK M a b) (k : VK M b c) : VK M a c := ⟨k.1, h.2.trans k.2⟩
theorem both_is (v : Vl) (hv : v.Sz) (l : Value) (es : List El) (hes : ∀ e ∈ es, e.Sz) (w : World) (hl : Lst w l es) (M : Int) : ∃ o t, o = Lx.okV v es.length (Lx.badL es) /\ Both M w v l o t es.length (items v.t).length := by
 obtain ⟨o, ho⟩ : ∃ o, Lx.okV v es.length (Lx.badL es) = o := ⟨_, rfl⟩
 have hsl := hl.slice
 have pck : ∀ w', VK M w w' -> Calls Tryz.prog 17 #[v.val l] w' fun e w'' => e = .returned (.int .i64 (chI o)) /\ Below w'.heap.size w' w'' := fun w' hw => by
  have q := xcheck_is v hv l es.length hsl (Lx.badL es) w' M (xcont_is hes v l w' (hl.keep hw.2) M) hw.1
  rw [ho] at q
  exact q
 have rck : ∀ w', VK M w w' -> Calls Tryz.prog 18 #[v.val l] w' fun e w'' => e = .returned (.int .i64 (chI o)) /\ Below w'.heap.size w' w'' := fun w' hw => by
  by_cases h6 : v.k = 6
  ·have q := xrck6_is v h6 l es w' (hl.keep hw.2) hes M hw.1
   rw [ho] at q
   exact q
  ·have q := xrck_is v hv l es.length hsl (Lx.badL es) h6 w' M hw.1
   rw [ho] at q
   exact q
 have hlen : ∀ (f g : FuncId), (∀ w', VK M w w' -> v.k = 1 -> Calls Tryz.prog f #[v.val l] w' fun e w'' => e = .returned (lenV o v es.length (items v.t).length) /\ Below w'.heap.size w' w'') -> (∀ w', VK M w w' -> v.k ≠ 1 -> Calls Tryz.prog f #[v.val l] w' fun e w'' => e = .returned (lenV o v es.length (items v.t).length) /\ Below w'.heap.size w' w'') -> g = g -> ∀ w', VK M w w' -> Calls Tryz.prog f #[v.val l] w' fun e w'' => e = .returned (lenV o v es.length (items v.t).length) /\ Below w'.heap.size w' w'' := fun f g h1 h2 _ w' hw => by
  by_cases h : v.k = 1
  ·exact h1 w' hw h
  ·exact h2 w' hw h
 have pln := hlen 15 0 (fun w' hw h1 => xplen1_is v h1 hv l es.length o (fun h => okV_str (ho.trans h) h1) w' M (fun w'' hw' => pck w'' (vk_trans hw hw')) hw.1)
  (fun w' hw h1 => xlen_core 15 17 run_plen9 fk v l es.length _ hsl o h1 w' M (fun w'' hw' => pck w'' (vk_trans hw hw')) hw.1) rfl
 have rln := hlen 16 0 (fun w' hw h1 => xrlen1_is v h1 hv l es.length o (fun h => okV_str (ho.trans h) h1) w' M (fun w'' hw' => rck w'' (vk_trans hw hw')) hw.1)
  (fun w' hw h1 => xlen_core 16 18 run_rlen9 fk v l es.length _ hsl o h1 w' M (fun w'' hw' => rck w'' (vk_trans hw hw')) hw.1) rfl
 by_cases h6 : v.k = 6
 ·refine ⟨o, Lx.listT es, ho.symm, pck, rck, fun w' hw => ?_, fun w' hw => ?_, pln, rln⟩
  ·refine xptext_core v l es.length hsl o (Lx.listT es) w' M (fun w'' hw' => pck w'' (vk_trans hw hw')) (fun h w'' hw' => ?_) hw.1
   obtain ⟨hn, hb⟩ := ok6_parts h6 (ho.trans h)
   exact xtext6_is v h6 l es w'' (hl.keep (vk_trans hw hw').2) hes hb hn M hw'.1
  ·have q := xrtx6_is v h6 l es w' (hl.keep hw.2) hes M hw.1
   rw [ho] at q
   exact q
 ·refine ⟨o, Lx.textS v, ho.symm, pck, rck, fun w' hw => ?_, fun w' hw => ?_, pln, rln⟩
  ·refine xptext_core v l es.length hsl o (Lx.textS v) w' M (fun w'' hw' => pck w'' (vk_trans hw hw')) (fun h w'' hw' => ?_) hw.1
   have hk : v.k = 1 \/ v.k = 2 \/ v.k = 3 \/ v.k = 4 \/ v.k = 5 := by
    rcases okV_kind (ho.trans h) with q | q | q | q | q | q
    ·exact .inl q
    ·exact .inr (.inl q)
    ·exact .inr (.inr (.inl q))
    ·exact .inr (.inr (.inr (.inl q)))
    ·exact .inr (.inr (.inr (.inr q)))
    ·exact absurd q h6
   exact xtexts_is v hv hk l es.length hsl w'' M hw'.1
  ·have q := xrtxn_is v hv l es.length hsl (Lx.badL es) h6 w' M hw.1
   rw [ho] at q
   exact q
theorem lenV_parts (o : Bool) (v : Vl) (n c : Nat) : ∃ a b, lenV o v n c = .tuple #[.int .i64 a, .int .i64 b] := by
 unfold lenV
 cases o with
 | false => exact ⟨_, _, rfl⟩
 | true =>
  rw [cond_true]
  split
  ·exact ⟨_, _, rfl⟩
  split
  ·exact ⟨_, _, rfl⟩
  split
  ·exact ⟨_, _, rfl⟩
  ·exact ⟨_, _, rfl⟩
theorem xvalues_is (v : Vl) (l : Value) (es : List El) (w : World) (hd : Deep w l es) (M : Int) (hV : Vars M w) : Calls Tryz.prog 4 #[v.val l] w fun e w' => e = .returned (.bool true) /\ Below w.heap.size w w' := by
 obtain ⟨r, hbey, hsz⟩ := xbeyond_is v l es w hd M
 have hsl := hd.1.slice
 obtain ⟨o, t, a, b, hT, hL, hB⟩ : ∃ (o : Bool) (t : ByteArray) (a b : Int), okT o t = okT o t /\ lenV o v es.length (items v.t).length = .tuple #[.int .i64 a, .int .i64 b] /\ (r = false -> Both M w v l o t es.length (items v.t).length) := by
  cases r with
  | true => obtain ⟨a, b, h⟩ := lenV_parts true v es.length (items v.t).length; exact ⟨true, ⟨#[]⟩, a, b, rfl, h, fun h => by cases h⟩
  | false =>
   obtain ⟨h1, h2⟩ := hsz rfl
   obtain ⟨o, t, _, hb⟩ := both_is v h1 l es h2 w hd.1 M
   obtain ⟨a, b, h⟩ := lenV_parts o v es.length (items v.t).length
   exact ⟨o, t, a, b, rfl, h, fun _ => hb⟩
 obtain ⟨u, hu⟩ : ∃ u : ByteArray, (bif o then t else ⟨#[]⟩) = u := ⟨_, rfl⟩
 have hT : okT o t = .tuple #[.string u, .int .i64 (chI o)] := by rw [<- hu]; cases o <;> rfl
 obtain ⟨env, hE⟩ : ∃ env, vE v l ++ [.bool r, .string u, .int .i64 (chI o), .int .i64 a, .int .i64 b, .int .i64 (chI o)] = env := ⟨_, rfl⟩
 have hone : env.all Value.oneCell' = true := hE ▸ vE_one v l _ hsl _ rfl
 have h18 : envE (.int .i64 M :: env) 18 = l := hE ▸ rfl
 have h19 : envE (.int .i64 M :: env) 19 = .bool r := hE ▸ rfl
 have hav : ∀ L, V.dens L (envE (.int .i64 M :: env)) [vaV 1 (.atom 18)] = [v.val l] := fun L => hE ▸ rfl
 have hp : lvP.Ok (envE (.int .i64 M :: env)) -> r = false := fun h => by
  have q : X.evB (envE (.int .i64 M :: env)) (.at 19) = false := h.1
  simpa only [X.evB, h19] using q
 have one : ∀ (f : FuncId) (pre : Fx) (x : V) (y : Value), x.ok 0 = true -> (∀ L, x.den L (envE (.int .i64 M :: env)) = y) -> (∃ fn, Tryz.prog.funcs[f]? = some fn /\ (fn.name == "runtime.NumGoroutine") = false /\ fn.body.isNone = false) ->
   (pre.Ok (envE (.int .i64 M :: env)) -> ∀ w', VK M w w' -> Calls Tryz.prog f #[v.val l] w' fun e w'' => e = .returned y /\ Below w'.heap.size w' w'') -> CallX.Ok Tryz.prog (envE (.int .i64 M :: env)) (VK M w) ⟨f, [vaV 1 (.atom 18)], pre, x⟩ := fun f pre x y hx hy hf h => by
  refine ⟨ok_mono (by decide) x hx, hf, fun hpre L w' hw => ?_⟩
  show Calls _ _ (V.dens L (envE (.int .i64 M :: env)) [vaV 1 (.atom 18)]).toArray w' _
  rw [hav]
  refine (h hpre w' hw).mono fun q w'' hq => ⟨?_, hq.2⟩
  unfold PostX
  rw [hx, hy]
  exact hq.1
 refine tree_rk run_lv ⟨⟨rfl, fk, fun _ L w' hw => xshown_is w' M hw.1⟩,
  one 12 [] (xb 19) (.bool r) rfl (fun L => hE ▸ rfl) fk (fun _ => hbey),
  one 13 lvP (.tup [xs 20, xi 21]) (.tuple #[.string u, .int .i64 (chI o)]) rfl (fun L => hE ▸ rfl) fk (fun h => by have q := (hB (hp h)).ptx; rw [hT] at q; exact q),
  one 14 lvP (.tup [xs 20, xi 21]) (.tuple #[.string u, .int .i64 (chI o)]) rfl (fun L => hE ▸ rfl) fk (fun h => by have q := (hB (hp h)).rtx; rw [hT] at q; exact q),
  one 15 lvP (.tup [xi 22, xi 23]) (.tuple #[.int .i64 a, .int .i64 b]) rfl (fun L => hE ▸ rfl) fk (fun h => by have q := (hB (hp h)).pln; rw [hL] at q; exact q),
  one 16 lvP (.tup [xi 22, xi 23]) (.tuple #[.int .i64 a, .int .i64 b]) rfl (fun L => hE ▸ rfl) fk (fun h => by have q := (hB (hp h)).rln; rw [hL] at q; exact q),
  one 17 lvP (xi 24) (.int .i64 (chI o)) rfl (fun L => hE ▸ rfl) fk (fun h => (hB (hp h)).pck),
  one 18 lvP (xi 24) (.int .i64 (chI o)) rfl (fun L => hE ▸ rfl) fk (fun h => (hB (hp h)).rck), trivial⟩ hone ⟨isSl_ok hsl h18, trivial⟩ rfl ?_ ?_ hV
 ·rw [hav]
 ·show (bif X.evB (envE (.int .i64 M :: env)) (.at 19) then V.bool true else .bool true : V).den L0 _ = _
  cases X.evB (envE (.int .i64 M :: env)) (.at 19) <;> rfl
end Go.Proofs.YthoojcdjjecogaaGreatDoor
