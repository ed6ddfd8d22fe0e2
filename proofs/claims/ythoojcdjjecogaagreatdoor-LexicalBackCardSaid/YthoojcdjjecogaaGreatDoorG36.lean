/-
  Part 36 of the proof: what functions return, and plain facts (Xlaws Xback Xptx Xlaws3 Xback2). Conditions: each theorem names its own.
-/
import Derived.Test.YthoojcdjjecogaaGreatDoorG35
import Derived.Test.YthoojcdjjecogaaGreatDoorG21
set_option maxRecDepth 1000000
set_option maxHeartbeats 16000000
namespace Go.Proofs.YthoojcdjjecogaaGreatDoor
open Go Go.RowKit Go.Ex
theorem run_text9 : chk (runTr Tryz.prog nG (fun _ => none) gd moT [⟨17, [vaV 1 .nils], [], xi 18⟩, ⟨31, [vaV 1 .nils], [], xs 19⟩] 100 13 [vaV 1 .nils] h0) (.node (.eq (.at 18) (.int 0)) (.leaf (.tup [xs 19, it 0])) (.leaf (.tup [.str [], it 2]))) [] = true := by decide +kernel
theorem xck_of (v : Vl) (hv : v.Sz) (h6 : v.k ≠ 6) (M : Int) {o : Bool} (ho : Lx.okV v 0 false = o) (w : World) (hV : Vars M w) : Calls Tryz.prog 17 #[v.val nilL] w fun e w' => e = .returned (.int .i64 (chI o)) /\ Below w.heap.size w w' := by
 rw [<- ho]; exact xcheck_is v hv nilL 0 nilL_slice false w M (listOk_no h6) hV
theorem xtextf_is (v : Vl) (hv : v.Sz) (t : ByteArray) (ht : ∀ w M, Vars M w -> Calls Tryz.prog 31 #[v.val nilL] w fun e w' => e = .returned (.string t) /\ Below w.heap.size w w') (hk : v.k ≠ 6) (w : World) (M : Int) (hV : Vars M w) :
  Calls Tryz.prog 13 #[v.val nilL] w fun e w' => e = .returned (bif Lx.okV v 0 false then .tuple #[.string t, .int .i64 0] else .tuple #[.string ⟨#[]⟩, .int .i64 2]) /\ Below w.heap.size w w' := by
 obtain ⟨o, ho⟩ : ∃ o, Lx.okV v 0 false = o := ⟨_, rfl⟩
 have hck := xck_of v hv hk M ho
 rw [ho]
 clear ho
 have h1 : (v.list ++ [Value.int .i64 (chI o), Value.string t]).all Value.oneCell' = true := rfl
 have h2 : (V.dens L0 (envE (.int .i64 M :: (v.list ++ [.int .i64 (chI o), .string t]))) [vaV 1 .nils]).toArray = #[v.val nilL] := rfl
 have h3 : (Tree.at (envE (.int .i64 M :: (v.list ++ [.int .i64 (chI o), .string t]))) (.node (.eq (.at 18) (.int 0)) (.leaf (.tup [xs 19, it 0])) (.leaf (.tup [.str [], it 2])))).den L0 (envE (.int .i64 M :: (v.list ++ [.int .i64 (chI o), .string t]))) = bif o then Value.tuple #[.string t, .int .i64 0] else .tuple #[.string ⟨#[]⟩, .int .i64 2] := by
  show (bif decide (chI o = 0) then V.tup [xs 19, it 0] else V.tup [.str [], it 2]).den L0 _ = _
  rw [chI_zero]
  cases o <;> rfl
 have h4 : AllX Tryz.prog (envE (.int .i64 M :: (v.list ++ [.int .i64 (chI o), .string t]))) (Vars M) [⟨17, [vaV 1 .nils], [], xi 18⟩, ⟨31, [vaV 1 .nils], [], xs 19⟩] := ⟨⟨rfl, fk, fun _ L w hV => hck w hV⟩, ⟨rfl, fk, fun _ L w hV => ht w M hV⟩, trivial⟩
 exact tree_rv run_text9 h4 h1 trivial rfl h2 h3 hV
def leT : Tree := .node (.eq (.at 18) (.int 0)) (.node (.eq (.at 1) (.int 5)) (.leaf (.tup [.xi .i64 (.len (.at 2)), it 0])) (.leaf (.tup [it 0, it 2]))) (.leaf (.tup [it 0, it 2]))
theorem run_len9 : chk (runTr Tryz.prog nG (fun _ => none) gd moT [⟨17, [vaV 1 .nils], [], xi 18⟩] 100 15 [vaV 1 .nils] h0) leT [(.eq (.at 1) (.int 1), false), (.eq (.at 1) (.int 6), false)] = true := by decide +kernel
theorem xlength_is (v : Vl) (hv : v.Sz) (h1 : v.k ≠ 1) (h6 : v.k ≠ 6) (w : World) (M : Int) (hV : Vars M w) : Calls Tryz.prog 15 #[v.val nilL] w fun e w' => e = .returned (bif Lx.okV v 0 false && decide (v.k = 5) then .tuple #[.int .i64 v.t.size, .int .i64 0] else .tuple #[.int .i64 0, .int .i64 2]) /\ Below w.heap.size w w' := by
 obtain ⟨o, ho⟩ : ∃ o, Lx.okV v 0 false = o := ⟨_, rfl⟩
 have hck := xck_of v hv h6 M ho
 rw [ho]
 clear ho
 have a1 : (v.list ++ [Value.int .i64 (chI o)]).all Value.oneCell' = true := rfl
 have a2 : (V.dens L0 (envE (.int .i64 M :: (v.list ++ [.int .i64 (chI o)]))) [vaV 1 .nils]).toArray = #[v.val nilL] := rfl
 have a3 : (leT.at (envE (.int .i64 M :: (v.list ++ [.int .i64 (chI o)])))).den L0 (envE (.int .i64 M :: (v.list ++ [.int .i64 (chI o)]))) = bif o && decide (v.k = 5) then Value.tuple #[.int .i64 v.t.size, .int .i64 0] else .tuple #[.int .i64 0, .int .i64 2] := by
  show (bif decide (chI o = 0) then bif decide (v.k = 5) then V.tup [.xi .i64 (.len (.at 2)), it 0] else V.tup [it 0, it 2] else V.tup [it 0, it 2]).den L0 _ = _
  rw [chI_zero]
  cases o <;> cases decide (v.k = 5) <;> rfl
 have a4 : AllX Tryz.prog (envE (.int .i64 M :: (v.list ++ [.int .i64 (chI o)]))) (Vars M) [⟨17, [vaV 1 .nils], [], xi 18⟩] := ⟨⟨rfl, fk, fun _ L w hV => hck w hV⟩, trivial⟩
 have a5 : Fx.Ok (envE (.int .i64 M :: (v.list ++ [.int .i64 (chI o)]))) [(.eq (.at 1) (.int 1), false), (.eq (.at 1) (.int 6), false)] := ⟨decide_eq_false h1, decide_eq_false h6, trivial⟩
 exact tree_rv run_len9 a4 a1 a5 rfl a2 a3 hV
def sA : ByteArray := ⟨#[32, 43, 48, 48, 55, 46, 53, 48, 32]⟩
def vA : Vl := ⟨3, ⟨#[]⟩, false, false, ⟨#[55, 53]⟩, 1, Mo.nil⟩
def vB : Vl := ⟨5, ⟨#[10, 255]⟩, false, false, ⟨#[]⟩, 0, Mo.nil⟩
def vC : Vl := ⟨2, ⟨#[]⟩, true, false, ⟨#[]⟩, 0, Mo.nil⟩
theorem read_A : Lx.readV 3 sA = (vA, 0) := by kernel_rfl
theorem read_dot : Lx.readV 3 ⟨#[46]⟩ = (Lx.zero, 6) := by kernel_rfl
theorem read_B : Lx.readV 7 ⟨#[48, 97, 102, 102]⟩ = (vB, 0) := by kernel_rfl
theorem read_C : Lx.readV 2 ⟨#[49]⟩ = (vC, 0) := by kernel_rfl
theorem ok_A : Lx.okV vA 0 false = true := by kernel_rfl
theorem ok_B : Lx.okV vB 0 false = true := by kernel_rfl
theorem ok_Z : Lx.okV Lx.zero 0 false = false := by kernel_rfl
def zv : V := vl (it 0) (.str []) (.bool false) (.bool false) (.str []) (it 0) mo0 .nils
def shA : V := vl (it 3) (.str []) (.bool false) (.bool false) (.str [55, 53]) (it 1) mo0 .nils
def shB : V := vl (it 5) (.str [10, 255]) (.bool false) (.bool false) (.str []) (it 0) mo0 .nils
def shC : V := vl (it 2) (.str []) (.bool true) (.bool false) (.str []) (it 0) mo0 .nils
def shX : List CallX := [⟨9, [it 3, .str [32, 43, 48, 48, 55, 46, 53, 48, 32]], [], .tup [shA, it 0]⟩, ⟨9, [it 3, .str [46]], [], .tup [zv, it 6]⟩, ⟨9, [it 7, .str [48, 97, 102, 102]], [], .tup [shB, it 0]⟩, ⟨13, [shB], [], .tup [.str [48, 65, 70, 70], it 0]⟩, ⟨15, [shB], [], .tup [it 2, it 0]⟩, ⟨9, [it 2, .str [49]], [], .tup [shC, it 0]⟩, ⟨17, [shA], [], it 0⟩, ⟨17, [zv], [], it 2⟩]
theorem run_shown9 : chk (runTr Tryz.prog nG (fun _ => none) gd moT shX 100 8 [] h0) yesT [] = true := by decide +kernel
theorem small_sz (v : Vl) (h1 : v.t.size <= 100000 := by decide) (h2 : v.s.size <= 1000000 := by decide) (h3 : v.m.s.size <= 1000000 := by decide) : v.Sz := ⟨h1, h2, h3⟩
theorem xshown_is (w : World) (M : Int) (hV : Vars M w) : Calls Tryz.prog 8 #[] w fun e w' => e = .returned (.bool true) /\ Below w.heap.size w w' := by
 have rd : ∀ (p : Int) (t : ByteArray) (r : Vl × Int) (h : Lx.readV p t = r) (w : World) (hV : Vars M w), Calls Tryz.prog 9 #[.int .i64 p, .string t] w fun e w' => e = .returned (tuV r) /\ Below w.heap.size w w' := fun p t r h w hV => by rw [<- h]; exact xread_is p t w M hV
 refine tree_rv (env := []) run_shown9 ⟨⟨rfl, fk, fun _ L w hV => rd 3 sA _ read_A w hV⟩, ⟨rfl, fk, fun _ L w hV => rd 3 _ _ read_dot w hV⟩, ⟨rfl, fk, fun _ L w hV => rd 7 _ _ read_B w hV⟩,
  ⟨rfl, fk, fun _ L w hV => ?_⟩, ⟨rfl, fk, fun _ L w hV => ?_⟩, ⟨rfl, fk, fun _ L w hV => rd 2 _ _ read_C w hV⟩,
  ⟨rfl, fk, fun _ L w hV => ?_⟩, ⟨rfl, fk, fun _ L w hV => ?_⟩, trivial⟩ rfl trivial rfl rfl rfl hV
 ·have h := xtextf_is vB (small_sz vB) (str (Lx.hexT (bts vB.t))) (fun w M _ => xtext5_is vB.t (by decide) false false ⟨#[]⟩ 0 Mo.nil nilL w) (by decide) w M hV
  rw [ok_B] at h
  exact h
 ·have h := xlength_is vB (small_sz vB) (by decide) (by decide) w M hV
  rw [ok_B] at h
  exact h
 ·have h := xcheck_is vA (small_sz vA) nilL 0 nilL_slice false w M (listOk_no (by decide)) hV
  rw [ok_A] at h
  exact h
 ·have h := xcheck_is Lx.zero (small_sz Lx.zero) nilL 0 nilL_slice false w M (listOk_no (by decide)) hV
  rw [ok_Z] at h
  exact h
theorem readR_ok {l : List Nat} (h : (readR l).k = 0) : okB (readR l).n (readR l).s (readR l).S = true := by
 unfold readR at h ⊢
 cases ho : Dc.readD l with
 | none => rw [ho] at h; cases h
 | some o =>
  rw [ho] at h
  cases o with
  | none => cases h
  | some a =>
   have hc : Dc.ok a := by
    unfold Dc.readD at ho
    split at ho
    ·obtain ⟨n, u, T⟩ := a
     exact (Dc.can_is (Option.some.inj ho)).1
    ·cases ho
   exact ok_okB hc
theorem k3 {k : Int} (h : (3 : Int) ≠ k := by decide) : ¬(3 : Int) = k := h
theorem okV3 {n : Bool} {s : ByteArray} {S : Int} (h : okB n s S = true) : Lx.okV ⟨3, ⟨#[]⟩, false, n, s, S, Mo.nil⟩ 0 false = true := by
 unfold Lx.okV Lx.kindB
 rw [if_neg (show ¬(3 : Int) = 1 by decide), if_neg (show ¬((3 : Int) = 2 \/ (3 : Int) = 5) by decide), if_pos (show (3 : Int) = 3 from rfl), h]
 rfl
end Go.Proofs.YthoojcdjjecogaaGreatDoor
namespace Go.Proofs.YthoojcdjjecogaaGreatDoor
open Go Go.RowKit

def Lx.textS (v : Vl) : ByteArray := if v.k = 1 then v.t else if v.k = 2 then (if v.b = true then Lx.strT else Lx.strF) else if v.k = 3 then (textR v.n v.s v.S).1 else if v.k = 4 then (Mo.textM v.m).1 else str (Lx.hexT (bts v.t))
namespace Lx
theorem dg_half {x : Nat} (h : x < 16) : half (dg x) = some x := by
 unfold half dg
 by_cases h1 : x < 10
 ·rw [if_pos h1, if_pos (by omega)]; congr 1; omega
 ·rw [if_neg h1, if_neg (by omega), if_neg (by omega), if_pos (by omega)]; congr 1; omega
theorem dg_asc {x : Nat} (h : x < 16) : 33 <= dg x /\ dg x <= 126 := by
 unfold dg; split <;> omega
theorem hex_back : ∀ (l : List Nat), (∀ c ∈ l, c < 256) -> hexL (hexT l) = some l /\ asc (hexT l)
 | [], _ => ⟨rfl, asc_nil⟩
 | c :: l, h => by
  have hc := h c (List.mem_cons_self ..)
  obtain ⟨e, a⟩ := hex_back l (fun d hd => h d (List.mem_cons_of_mem _ hd))
  have ht : hexT (c :: l) = dg (c / 16) :: dg (c % 16) :: hexT l := rfl
  rw [ht]
  refine ⟨?_, asc_cons (dg_asc (by omega)) (asc_cons (dg_asc (by omega)) a)⟩
  rw [hexL_step (dg_half (by omega)) (dg_half (by omega)), e]
  show some ((16 * (c / 16) + c % 16) :: l) = some (c :: l)
  congr 2
  omega
theorem half_low {c n : Nat} (h : half c = some n) : n < 16 := half_lt h
theorem hexL_low : ∀ (l m : List Nat), hexL l = some m -> (∀ c ∈ m, c < 256) /\ 2 * m.length = l.length
 | [], m, h => by
  unfold hexL at h
  cases h
  exact ⟨fun _ h => (by cases h), rfl⟩
 | [a], m, h => by unfold hexL at h; cases h
 | a :: b :: r, m, h => by
  unfold hexL at h
  simp only [Option.bind_eq_some_iff, Option.map_eq_some_iff] at h
  obtain ⟨x, hx, y, hy, q, hq, rfl⟩ := h
  obtain ⟨h1, h2⟩ := hexL_low r q hq
  have h3 := half_low hx
  have h4 := half_low hy
  refine ⟨fun c hc => ?_, by simp only [List.length_cons]; omega⟩
  rcases List.mem_cons.1 hc with rfl | hc
  ·omega
  ·exact h1 c hc
end Lx
theorem num_back {n : Bool} {s : ByteArray} {S : Int} (h : okB n s S = true) : Lx.asc (bts (textR n s S).1) /\ readR (bts (textR n s S).1) = ⟨n, s, S, 0⟩ := by
 have k := okB_ok h
 have e : (textR n s S).1 = str (Dc.txt n (bts s) S.toNat) := by unfold textR; rw [if_pos h]
 have a := Lx.asc_txt n S.toNat k.dig.all
 rw [e, bts_str _ (Lx.asc_low a)]
 refine ⟨a, ?_⟩
 have q := Dc.read_txt n (Dc.val (bts s)) S.toNat
 rw [<- k.eq] at q
 unfold readR
 rw [q, show Dc.can n (Dc.val (bts s)) S.toNat = some (rawD n s S) from Dc.can_self k.can]
 show (⟨n, str (Dc.digs (Dc.val (bts s))), ((S.toNat : Nat) : Int), 0⟩ : Res) = _
 rw [<- k.eq, str_bts, Int.toNat_of_nonneg k.low]
theorem mo_back {x : Mo} (h : Mo.okB x = true) : Lx.asc (bts (Mo.textM x).1) /\ Mo.readM x.k (bts (Mo.textM x).1) = (x, 0) := by
 have hO : Mo.Ok x := of_decide_eq_true h
 have a := Lx.asc_mo hO
 have e : (Mo.textM x).1 = str (Mo.textL x) := by unfold Mo.textM; rw [if_pos h]
 rw [e, bts_str _ (Lx.asc_low a)]
 exact ⟨a, Mo.readM_text hO⟩
theorem mo_small {x : Mo} (h : Mo.okB x = true) : x.s.size <= 1000000 := by
 obtain ⟨_, _, _, _, _, h6⟩ : Mo.Ok x := of_decide_eq_true h
 by_cases hk : x.k = 1
 ·rw [if_pos hk] at h6
  obtain ⟨_, _, _, e, _⟩ := h6
  rw [e]
  exact Nat.zero_le _
 ·rw [if_neg hk] at h6
  have q := h6.1
  unfold Mo.secB at q
  simp only [Bool.and_eq_true] at q
  have := (okB_ok q.1).size
  omega
theorem equal_self {a : Mo} (h : Mo.okB a = true) : equalM a a = (true, 0) := by
 unfold equalM
 have hk : Mo.okB a = true /\ Mo.okB a = true /\ a.k = a.k := ⟨h, h, rfl⟩
 rw [if_pos hk]
 simp
theorem read_asc {p : Int} {u : ByteArray} (ha : Lx.asc (bts u)) (hs : u.size <= 300) (h1 : 2 <= p) (h7 : p <= 7) : Lx.readV p u = Lx.readS p u := by
 unfold Lx.readV
 rw [if_neg (by omega), if_neg (by omega), if_neg (fun h => h (Lx.asc_wrong ha)), if_neg (by omega), Lx.asc_sq ha, str_bts]
structure Lx.Read (p : Int) (x : Vl) : Prop where
 ok : Lx.okV x 0 false = true
 sz : x.Sz
 k : x.k = 1 \/ x.k = 2 \/ x.k = 3 \/ x.k = 4 \/ x.k = 5
 back : (Lx.textS x).size <= 300 -> Lx.readV p (Lx.textS x) = (x, 0)
 same : Lx.sameB x x false = true
theorem sz_0 {k : Int} {t : ByteArray} {b n : Bool} {s : ByteArray} {S : Int} {m : Mo} (h1 : t.size <= 100000) (h2 : s.size <= 1000000) (h3 : m.s.size <= 1000000) : (⟨k, t, b, n, s, S, m⟩ : Vl).Sz := ⟨h1, h2, h3⟩
theorem nil_s : (⟨#[]⟩ : ByteArray).size <= 100000 := Nat.zero_le _
theorem nil_s' : (⟨#[]⟩ : ByteArray).size <= 1000000 := Nat.zero_le _
theorem nil_m : Mo.nil.s.size <= 1000000 := Nat.zero_le _
theorem same_plain {x : Vl} (h4 : x.k ≠ 4) (h6 : x.k ≠ 6) : Lx.sameB x x false = true := by
 unfold Lx.sameB
 rw [if_pos rfl, if_neg h4, if_neg h6]
 simp
theorem read_truth {s : ByteArray} (h : (Lx.truthV s).2 = 0) : Lx.Read 2 (Lx.truthV s).1 := by
 have yes : ∀ b : Bool, Lx.Read 2 ⟨2, ⟨#[]⟩, b, false, ⟨#[]⟩, 0, Mo.nil⟩ := fun b => by
  cases b
  ·exact ⟨by kernel_rfl, sz_0 nil_s nil_s' nil_m, .inr (.inl rfl), fun _ => by kernel_rfl, same_plain (by decide) (by decide)⟩
  ·exact ⟨by kernel_rfl, sz_0 nil_s nil_s' nil_m, .inr (.inl rfl), fun _ => by kernel_rfl, same_plain (by decide) (by decide)⟩
 unfold Lx.truthV at h ⊢
 by_cases h1 : s = Lx.strT \/ s = ⟨#[49]⟩
 ·rw [if_pos h1]; exact yes true
 ·rw [if_neg h1] at h ⊢
  by_cases h2 : s = Lx.strF \/ s = ⟨#[48]⟩
  ·rw [if_pos h2]; exact yes false
  ·rw [if_neg h2] at h; cases h
theorem read_num {l : List Nat} (h : (Lx.numV (readR l)).2 = 0) : Lx.Read 3 (Lx.numV (readR l)).1 := by
 have hk : (readR l).k = 0 := by
  unfold Lx.numV at h
  by_cases hk : (readR l).k = 0
  ·exact hk
  ·rw [if_neg hk] at h; exact h
 have ho := readR_ok hk
 unfold Lx.numV
 rw [if_pos hk]
 generalize (readR l).n = n at ho
 generalize (readR l).s = s at ho
 generalize (readR l).S = S at ho
 have q := num_back ho
 have hz := (okB_ok ho).size
 refine ⟨okV3 ho, sz_0 nil_s (by omega) nil_m, .inr (.inr (.inl rfl)), fun hs => ?_, same_plain (x := ⟨3, ⟨#[]⟩, false, n, s, S, Mo.nil⟩) (show (3 : Int) ≠ 4 by decide) (show (3 : Int) ≠ 6 by decide)⟩
 have e : Lx.textS ⟨3, ⟨#[]⟩, false, n, s, S, Mo.nil⟩ = (textR n s S).1 := by
  unfold Lx.textS
  rw [if_neg (show ¬(3 : Int) = 1 by decide), if_neg (show ¬(3 : Int) = 2 by decide), if_pos (show (3 : Int) = 3 from rfl)]
 rw [e] at hs ⊢
 rw [read_asc q.1 hs (by decide) (by decide)]
 unfold Lx.readS
 rw [if_neg (by decide), if_pos rfl, q.2]
 rfl
theorem read_mom {p : Int} {l : List Nat} (hp : p = 4 \/ p = 5 \/ p = 6) (h : (Lx.momV (Mo.readM (p - 3) l)).2 = 0) : Lx.Read p (Lx.momV (Mo.readM (p - 3) l)).1 := by
 have hk : (Mo.readM (p - 3) l).2 = 0 := by
  unfold Lx.momV at h
  by_cases hk : (Mo.readM (p - 3) l).2 = 0
  ·exact hk
  ·rw [if_neg hk] at h; exact h
 obtain ⟨ho, he⟩ := readM_ok hk
 unfold Lx.momV
 rw [if_pos hk]
 generalize (Mo.readM (p - 3) l).1 = m at ho he
 have q := mo_back ho
 refine ⟨?_, sz_0 nil_s nil_s' (mo_small ho), .inr (.inr (.inr (.inl rfl))), fun hs => ?_, ?_⟩
 ·unfold Lx.okV Lx.kindB
  rw [if_neg (show ¬(4 : Int) = 1 by decide), if_neg (show ¬((4 : Int) = 2 \/ (4 : Int) = 5) by decide), if_neg (show ¬(4 : Int) = 3 by decide), if_pos (show (4 : Int) = 4 from rfl), ho]
  rfl
 ·have e : Lx.textS ⟨4, ⟨#[]⟩, false, false, ⟨#[]⟩, 0, m⟩ = (Mo.textM m).1 := by
   unfold Lx.textS
   rw [if_neg (show ¬(4 : Int) = 1 by decide), if_neg (show ¬(4 : Int) = 2 by decide), if_neg (show ¬(4 : Int) = 3 by decide), if_pos (show (4 : Int) = 4 from rfl)]
  rw [e] at hs ⊢
  rw [read_asc q.1 hs (by omega) (by omega)]
  unfold Lx.readS
  rw [if_neg (by omega), if_neg (by omega), if_neg (by omega), <- he, q.2]
  rfl
 ·unfold Lx.sameB
  rw [if_pos rfl, if_pos (show (4 : Int) = 4 from rfl)]
  show ((equalM m m).1 && decide ((equalM m m).2 = 0)) = true
  rw [equal_self ho]
  rfl
theorem read_hex {s : ByteArray} (hs : s.size <= 300) (h : (Lx.hexV (bts s)).2 = 0) : Lx.Read 7 (Lx.hexV (bts s)).1 := by
 unfold Lx.hexV at h ⊢
 cases ho : Lx.hexL (bts s) with
 | none => rw [ho] at h; cases h
 | some m =>
  obtain ⟨h1, h2⟩ := Lx.hexL_low _ _ ho
  rw [bts_length] at h2
  obtain ⟨b1, b2⟩ := Lx.hex_back m h1
  have eb : bts (str m) = m := bts_str m h1
  have e : Lx.textS ⟨5, str m, false, false, ⟨#[]⟩, 0, Mo.nil⟩ = str (Lx.hexT m) := by
   unfold Lx.textS
   rw [if_neg (show ¬(5 : Int) = 1 by decide), if_neg (show ¬(5 : Int) = 2 by decide), if_neg (show ¬(5 : Int) = 3 by decide), if_neg (show ¬(5 : Int) = 4 by decide)]
   show str (Lx.hexT (bts (str m))) = _
   rw [eb]
  refine ⟨?_, sz_0 (by rw [str_size]; omega) nil_s' nil_m, .inr (.inr (.inr (.inr rfl))), fun hs => ?_, same_plain (x := ⟨5, str m, false, false, ⟨#[]⟩, 0, Mo.nil⟩) (show (5 : Int) ≠ 4 by decide) (show (5 : Int) ≠ 6 by decide)⟩
  ·unfold Lx.okV Lx.kindB
   rw [if_neg (show ¬(5 : Int) = 1 by decide), if_pos (show ((5 : Int) = 2 \/ (5 : Int) = 5) from .inr rfl)]
   rfl
  ·show Lx.readV 7 (Lx.textS ⟨5, str m, false, false, ⟨#[]⟩, 0, Mo.nil⟩) = (⟨5, str m, false, false, ⟨#[]⟩, 0, Mo.nil⟩, 0)
   have hs' : (Lx.textS ⟨5, str m, false, false, ⟨#[]⟩, 0, Mo.nil⟩).size <= 300 := hs
   rw [e] at hs' ⊢
   have eh : bts (str (Lx.hexT m)) = Lx.hexT m := bts_str _ (Lx.asc_low b2)
   rw [read_asc (by rw [eh]; exact b2) hs' (by decide) (by decide)]
   unfold Lx.readS
   rw [if_neg (by decide), if_neg (by decide), if_pos rfl, eh]
   unfold Lx.hexV
   rw [b1]
theorem readV_known {p : Int} {t : ByteArray} (h : (Lx.readV p t).2 = 0) : Lx.Read p (Lx.readV p t).1 := by
 unfold Lx.readV at h ⊢
 by_cases h1 : p < 1 \/ 7 < p
 ·rw [if_pos h1] at h; cases h
 rw [if_neg h1] at h ⊢
 by_cases h2 : 300 < t.size
 ·rw [if_pos h2] at h; cases h
 rw [if_neg h2] at h ⊢
 by_cases h3 : wrongI t ≠ -1
 ·rw [if_pos h3] at h; cases h
 rw [if_neg h3] at h ⊢
 have h3' : wrongI t = -1 := Decidable.not_not.1 h3
 by_cases h4 : p = 1
 ·rw [if_pos h4]
  subst h4
  have e : Lx.textS ⟨1, t, false, false, ⟨#[]⟩, 0, Mo.nil⟩ = t := by unfold Lx.textS; rw [if_pos (show (1 : Int) = 1 from rfl)]
  refine ⟨?_, sz_0 (by omega) nil_s' nil_m, .inl rfl, fun _ => ?_, same_plain (x := ⟨1, t, false, false, ⟨#[]⟩, 0, Mo.nil⟩) (show (1 : Int) ≠ 4 by decide) (show (1 : Int) ≠ 6 by decide)⟩
  ·unfold Lx.okV Lx.kindB
   rw [if_pos (show (1 : Int) = 1 from rfl), decide_eq_true h3']
   rfl
  ·show Lx.readV 1 (Lx.textS ⟨1, t, false, false, ⟨#[]⟩, 0, Mo.nil⟩) = _
   rw [e]
   unfold Lx.readV
   rw [if_neg (by decide), if_neg h2, if_neg h3, if_pos rfl]
 ·rw [if_neg h4] at h ⊢
  have hz := sqS_size t
  unfold Lx.readS at h ⊢
  by_cases h5 : p = 2
  ·rw [if_pos h5] at h ⊢; subst h5; exact read_truth h
  rw [if_neg h5] at h ⊢
  by_cases h6 : p = 3
  ·rw [if_pos h6] at h ⊢; subst h6; exact read_num h
  rw [if_neg h6] at h ⊢
  by_cases h7 : p = 7
  ·rw [if_pos h7] at h ⊢; subst h7; exact read_hex (by unfold sqS at hz; omega) h
  rw [if_neg h7] at h ⊢
  exact read_mom (by omega) h
end Go.Proofs.YthoojcdjjecogaaGreatDoor
namespace Go.Proofs.YthoojcdjjecogaaGreatDoor
open Go Go.RowKit Go.Ex

theorem run_tx1 : chk (runTr Tryz.prog nG (fun _ => none) gd moT [] 100 31 [vaK 1 1 (.atom 18)] h0) (.leaf (xs 2)) [(.isSl 18, true)] = true := by decide +kernel
theorem run_tx2 : chk (runTr Tryz.prog nG (fun _ => none) gd moT [] 100 31 [vaK 2 1 (.atom 18)] h0) (.node (.at 3) (.leaf (.str [116, 114, 117, 101])) (.leaf (.str [102, 97, 108, 115, 101]))) [(.isSl 18, true)] = true := by decide +kernel
theorem run_tx3 : chk (runTr Tryz.prog nG (fun _ => none) gd moT [⟨65, [deV 4], [], .tup [xs 19, xi 20]⟩] 100 31 [vaK 3 1 (.atom 18)] h0) (.leaf (xs 19)) [(.isSl 18, true)] = true := by decide +kernel
theorem run_tx4 : chk (runTr Tryz.prog nG (fun _ => none) gd moT [⟨66, [moV 7], [], .tup [xs 19, xi 20]⟩] 100 31 [vaK 4 1 (.atom 18)] h0) (.leaf (xs 19)) [(.isSl 18, true)] = true := by decide +kernel
theorem textS_1 {v : Vl} (h : v.k = 1) : Lx.textS v = v.t := if_pos h
theorem textS_2 {v : Vl} (h : v.k = 2) : Lx.textS v = if v.b = true then Lx.strT else Lx.strF := by
 unfold Lx.textS; rw [if_neg (by omega), if_pos h]
theorem textS_3 {v : Vl} (h : v.k = 3) : Lx.textS v = (textR v.n v.s v.S).1 := by
 unfold Lx.textS; rw [if_neg (by omega), if_neg (by omega), if_pos h]
theorem textS_4 {v : Vl} (h : v.k = 4) : Lx.textS v = (Mo.textM v.m).1 := by
 unfold Lx.textS; rw [if_neg (by omega), if_neg (by omega), if_neg (by omega), if_pos h]
theorem textS_5 {v : Vl} (h : v.k = 5) : Lx.textS v = str (Lx.hexT (bts v.t)) := by
 unfold Lx.textS; rw [if_neg (by omega), if_neg (by omega), if_neg (by omega), if_neg (by omega)]
def tvE (v : Vl) (l : Value) (u : ByteArray) (e : Int) : List Value := vE v l ++ [.string u, .int .i64 e]
theorem xtexts_is (v : Vl) (hv : v.Sz) (hk : v.k = 1 \/ v.k = 2 \/ v.k = 3 \/ v.k = 4 \/ v.k = 5) (l : Value) (n : Nat) (hl : SliceN l n) (w : World) (M : Int) (hV : Vars M w) : Calls Tryz.prog 31 #[v.val l] w fun e w' => e = .returned (.string (Lx.textS v)) /\ Below w.heap.size w w' := by
 have hone : ∀ u e, (tvE v l u e).all Value.oneCell' = true := fun u e => vE_one v l n hl _ rfl
 have hs : ∀ u e, X.evB (envE (.int .i64 M :: tvE v l u e)) (.isSl 18) = true := fun u e => isSl_ok hl rfl
 rcases hk with h | h | h | h | h
 ·rw [textS_1 h]
  exact tree_rv (env := tvE v l ⟨#[]⟩ 0) run_tx1 trivial (hone _ _) ⟨hs _ _, trivial⟩ rfl (by rw [<- h]; rfl) rfl hV
 ·rw [textS_2 h]
  refine tree_rv (env := tvE v l ⟨#[]⟩ 0) run_tx2 trivial (hone _ _) ⟨hs _ _, trivial⟩ rfl (by rw [<- h]; rfl) ?_ hV
  show (bif v.b then V.str [116, 114, 117, 101] else .str [102, 97, 108, 115, 101] : V).den L0 _ = _
  cases v.b <;> rfl
 ·rw [textS_3 h]
  obtain ⟨⟨u, e⟩, hu⟩ : ∃ q, textR v.n v.s v.S = q := ⟨_, rfl⟩
  have hd := ptext_is v.n v.s v.S hv.s u e hu
  have a3 : ((Tree.leaf (xs 19)).at (envE (.int .i64 M :: tvE v l u e))).den L0 (envE (.int .i64 M :: tvE v l u e)) = .string u := rfl
  have c1 : CallX.Ok Tryz.prog (envE (.int .i64 M :: tvE v l u e)) (Vars M) ⟨65, [deV 4], [], .tup [xs 19, xi 20]⟩ := ⟨rfl, fk, fun _ L w _ => hd w⟩
  have q := tree_rv run_tx3 ⟨c1, trivial⟩ (hone u e) ⟨hs u e, trivial⟩ rfl (av := #[v.val l]) (by rw [<- h]; rfl) a3 hV
  rw [hu]
  exact q
 ·rw [textS_4 h]
  obtain ⟨⟨u, e⟩, hu⟩ : ∃ q, Mo.textM v.m = q := ⟨_, rfl⟩
  have hd : ∀ w, Vars M w -> Calls Tryz.prog 66 #[v.m.val] w fun r w' => r = .returned (.tuple #[.string u, .int .i64 e]) /\ Below w.heap.size w w' := fun w hV => by
   have q := ptext_m v.m hv.m w M hV
   unfold textV at q
   rwa [hu] at q
  have a3 : ((Tree.leaf (xs 19)).at (envE (.int .i64 M :: tvE v l u e))).den L0 (envE (.int .i64 M :: tvE v l u e)) = .string u := rfl
  have c1 : CallX.Ok Tryz.prog (envE (.int .i64 M :: tvE v l u e)) (Vars M) ⟨66, [moV 7], [], .tup [xs 19, xi 20]⟩ := ⟨rfl, fk, fun _ L w hV => hd w hV⟩
  have q := tree_rv run_tx4 ⟨c1, trivial⟩ (hone u e) ⟨hs u e, trivial⟩ rfl (av := #[v.val l]) (by rw [<- h]; rfl) a3 hV
  rw [hu]
  exact q
 ·rw [textS_5 h]
  obtain ⟨k, t, b, n, s, S, m⟩ := v
  cases h
  exact xtext5_is t hv.t b n s S m l w

theorem run_sameV : chk (runTr Tryz.prog nG (fun _ => none) gd moT [] 100 11 [vaV 1 .nils, vaV 1 .nils] h0) yesT [] = true := by decide +kernel
theorem samev_is (v : Vl) (w : World) (M : Int) (hV : Vars M w) : Calls Tryz.prog 11 #[v.val nilL, v.val nilL] w fun e w' => e = .returned (.bool true) /\ Below w.heap.size w w' :=
 tree_rv (env := v.list) run_sameV trivial rfl trivial rfl rfl rfl hV
def okF : X × Bool := (.eq (.at 3) (.int 0), true)
def baC : List CallX := [⟨8, [], [], .bool true⟩, ⟨9, [xi 1, xs 2], [], .tup [vaV 11 .nils, xi 3]⟩, ⟨11, [vaV 11 .nils, vl (it 0) (.str []) (.bool false) (.bool false) (.str []) (it 0) mo0 .nils], [(.eq (.at 3) (.int 0), false)], .bool true⟩,
 ⟨13, [vaV 11 .nils], [okF], .tup [xs 4, it 0]⟩, ⟨17, [vaV 11 .nils], [okF], it 0⟩, ⟨9, [xi 1, xs 4], [okF, (.lt (.int 300) (.len (.at 4)), false)], .tup [vaV 11 .nils, it 0]⟩, ⟨19, [vaV 11 .nils, vaV 11 .nils], [okF], .tup [.bool true, it 0]⟩]
def baT : Tree := .node (.eq (.at 3) (.int 0)) (.node (.lt (.int 300) (.len (.at 4))) yesT yesT) yesT
theorem run_back9 : chk (runTr Tryz.prog nG (fun _ => none) gd moT baC 100 5 [xi 1, xs 2] h0) baT [] = true := by decide +kernel
def baE (p : Int) (t : ByteArray) (e : Int) (u : ByteArray) (x : Vl) : List Value := [.int .i64 p, .string t, .int .i64 e, .string u, .bool false, .bool false, .bool false, .bool false, .bool false, .bool false] ++ x.list
theorem back_core (p : Int) (t : ByteArray) (x : Vl) (e : Int) (u : ByteArray) (M : Int) (h1 : ∀ w, Vars M w -> Calls Tryz.prog 9 #[.int .i64 p, .string t] w fun r w' => r = .returned (.tuple #[x.val nilL, .int .i64 e]) /\ Below w.heap.size w w')
  (h2 : e ≠ 0 -> x = Lx.zero)
  (h3 : e = 0 -> (∀ w, Vars M w -> Calls Tryz.prog 13 #[x.val nilL] w fun r w' => r = .returned (.tuple #[.string u, .int .i64 0]) /\ Below w.heap.size w w') /\ (∀ w, Vars M w -> Calls Tryz.prog 17 #[x.val nilL] w fun r w' => r = .returned (.int .i64 0) /\ Below w.heap.size w w') /\
   (∀ w, Vars M w -> Calls Tryz.prog 19 #[x.val nilL, x.val nilL] w fun r w' => r = .returned (.tuple #[.bool true, .int .i64 0]) /\ Below w.heap.size w w') /\
   (u.size <= 300 -> ∀ w, Vars M w -> Calls Tryz.prog 9 #[.int .i64 p, .string u] w fun r w' => r = .returned (.tuple #[x.val nilL, .int .i64 0]) /\ Below w.heap.size w w')) (w : World) (hV : Vars M w) :
  Calls Tryz.prog 5 #[.int .i64 p, .string t] w fun e w' => e = .returned (.bool true) /\ Below w.heap.size w w' := by
 have a1 : (baE p t e u x).all Value.oneCell' = true := rfl
 have a2 : (V.dens L0 (envE (.int .i64 M :: baE p t e u x)) [xi 1, xs 2]).toArray = #[.int .i64 p, .string t] := rfl
 have a3 : (baT.at (envE (.int .i64 M :: baE p t e u x))).den L0 (envE (.int .i64 M :: baE p t e u x)) = .bool true := by
  have q : baT.at (envE (.int .i64 M :: baE p t e u x)) = bif decide (e = 0) then bif decide ((300 : Int) < (u.size : Int)) then V.bool true else .bool true else .bool true := rfl
  rw [q]
  cases decide (e = 0) <;> cases decide ((300 : Int) < (u.size : Int)) <;> rfl
 have d3 : X.evB (envE (.int .i64 M :: baE p t e u x)) (.eq (.at 3) (.int 0)) = decide (e = 0) := rfl
 have d4 : X.evB (envE (.int .i64 M :: baE p t e u x)) (.lt (.int 300) (.len (.at 4))) = decide ((300 : Int) < (u.size : Int)) := rfl
 have get : ∀ {F}, Fx.Ok (envE (.int .i64 M :: baE p t e u x)) (okF :: F) -> e = 0 := fun h => of_decide_eq_true (d3 ▸ h.1)
 have c1 : CallX.Ok Tryz.prog (envE (.int .i64 M :: baE p t e u x)) (Vars M) ⟨8, [], [], .bool true⟩ := ⟨rfl, fk, fun _ L w hV => xshown_is w M hV⟩
 have c2 : CallX.Ok Tryz.prog (envE (.int .i64 M :: baE p t e u x)) (Vars M) ⟨9, [xi 1, xs 2], [], .tup [vaV 11 .nils, xi 3]⟩ := ⟨rfl, fk, fun _ L w hV => h1 w hV⟩
 have c3 : CallX.Ok Tryz.prog (envE (.int .i64 M :: baE p t e u x)) (Vars M) ⟨11, [vaV 11 .nils, vl (it 0) (.str []) (.bool false) (.bool false) (.str []) (it 0) mo0 .nils], [(.eq (.at 3) (.int 0), false)], .bool true⟩ := ⟨rfl, fk, fun hp L w hV => by
  have he : e ≠ 0 := of_decide_eq_false (d3 ▸ hp.1)
  have hx := h2 he
  subst hx
  exact samev_is Lx.zero w M hV⟩
 have c4 : CallX.Ok Tryz.prog (envE (.int .i64 M :: baE p t e u x)) (Vars M) ⟨13, [vaV 11 .nils], [okF], .tup [xs 4, it 0]⟩ := ⟨rfl, fk, fun hp L w hV => (h3 (get hp)).1 w hV⟩
 have c5 : CallX.Ok Tryz.prog (envE (.int .i64 M :: baE p t e u x)) (Vars M) ⟨17, [vaV 11 .nils], [okF], it 0⟩ := ⟨rfl, fk, fun hp L w hV => (h3 (get hp)).2.1 w hV⟩
 have c6 : CallX.Ok Tryz.prog (envE (.int .i64 M :: baE p t e u x)) (Vars M) ⟨9, [xi 1, xs 4], [okF, (.lt (.int 300) (.len (.at 4)), false)], .tup [vaV 11 .nils, it 0]⟩ := ⟨rfl, fk, fun hp L w hV => by
  have hu : ¬(300 : Int) < (u.size : Int) := of_decide_eq_false (d4 ▸ hp.2.1)
  exact (h3 (get hp)).2.2.2 (by omega) w hV⟩
 have c7 : CallX.Ok Tryz.prog (envE (.int .i64 M :: baE p t e u x)) (Vars M) ⟨19, [vaV 11 .nils, vaV 11 .nils], [okF], .tup [.bool true, it 0]⟩ := ⟨rfl, fk, fun hp L w hV => (h3 (get hp)).2.2.1 w hV⟩
 exact tree_rv run_back9 ⟨c1, c2, c3, c4, c5, c6, c7, trivial⟩ a1 trivial rfl a2 a3 hV
theorem zero_of {p : Int} {t : ByteArray} (h : (Lx.readV p t).2 ≠ 0) : (Lx.readV p t).1 = Lx.zero := by
 unfold Lx.readV at h ⊢
 repeat' split
 all_goals first | rfl | skip
 all_goals rename_i h1 h2 h3 h4
 ·rw [if_neg h1, if_neg h2, if_neg h3, if_pos h4] at h
  exact absurd rfl h
 ·rw [if_neg h1, if_neg h2, if_neg h3, if_neg h4] at h
  unfold Lx.readS at h ⊢
  by_cases h5 : p = 2
  ·rw [if_pos h5] at h ⊢
   unfold Lx.truthV at h ⊢
   by_cases q1 : str (sqTwo (bts t)) = Lx.strT \/ str (sqTwo (bts t)) = ⟨#[49]⟩
   ·rw [if_pos q1] at h; exact absurd rfl h
   rw [if_neg q1] at h ⊢
   by_cases q2 : str (sqTwo (bts t)) = Lx.strF \/ str (sqTwo (bts t)) = ⟨#[48]⟩
   ·rw [if_pos q2] at h; exact absurd rfl h
   rw [if_neg q2]
  rw [if_neg h5] at h ⊢
  by_cases h6 : p = 3
  ·rw [if_pos h6] at h ⊢
   unfold Lx.numV at h ⊢
   by_cases q1 : (readR (bts (str (sqTwo (bts t))))).k = 0
   ·rw [if_pos q1] at h; exact absurd rfl h
   ·rw [if_neg q1]
  rw [if_neg h6] at h ⊢
  by_cases h7 : p = 7
  ·rw [if_pos h7] at h ⊢
   unfold Lx.hexV at h ⊢
   cases q1 : Lx.hexL (bts (str (sqTwo (bts t)))) with
   | none => rfl
   | some m => rw [q1] at h; exact absurd rfl h
  rw [if_neg h7] at h ⊢
  unfold Lx.momV at h ⊢
  by_cases q1 : (Mo.readM (p - 3) (bts (str (sqTwo (bts t))))).2 = 0
  ·rw [if_pos q1] at h; exact absurd rfl h
  ·rw [if_neg q1]
theorem xback_is (p : Int) (t : ByteArray) (w : World) (M : Int) (hV : Vars M w) : Calls Tryz.prog 5 #[.int .i64 p, .string t] w fun e w' => e = .returned (.bool true) /\ Below w.heap.size w w' := by
 refine back_core p t (Lx.readV p t).1 (Lx.readV p t).2 (Lx.textS (Lx.readV p t).1) M (fun w hV => xread_is p t w M hV) zero_of (fun he => ?_) w hV
 have q := readV_known he
 have h6 : (Lx.readV p t).1.k ≠ 6 := by rcases q.k with h | h | h | h | h <;> omega
 obtain ⟨x, hx⟩ : ∃ x, (Lx.readV p t).1 = x := ⟨_, rfl⟩
 rw [hx] at q h6 ⊢
 clear hx
 refine ⟨fun w hV => ?_, fun w hV => ?_, fun w hV => ?_, fun hs w hV => ?_⟩
 ·have r := xtextf_is x q.sz (Lx.textS x) (fun w M hV => xtexts_is x q.sz q.k nilL 0 nilL_slice w M hV) h6 w M hV
  rw [q.ok] at r
  exact r
 ·have r := xcheck_is x q.sz nilL 0 nilL_slice false w M (listOk_no h6) hV
  rw [q.ok] at r
  exact r
 ·have r := xequal_is x x q.sz q.sz nilL nilL 0 0 nilL_slice nilL_slice false false false w M (listOk_no h6) (listOk_no h6) (fun _ _ h => absurd h h6) hV
  have e3 : Lx.equalV true true x x false = (true, 0) := by unfold Lx.equalV; rw [if_pos ⟨rfl, rfl⟩, q.same]
  rw [q.ok, e3] at r
  exact r
 ·have r := xread_is p (Lx.textS x) w M hV
  rw [q.back hs] at r
  exact r
end Go.Proofs.YthoojcdjjecogaaGreatDoor
