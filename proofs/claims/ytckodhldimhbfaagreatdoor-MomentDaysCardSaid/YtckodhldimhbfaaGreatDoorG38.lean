/-
  Part 38 of the proof: what functions return, and plain facts (Mshown). Conditions: each theorem names its own.
-/
import Derived.Test.YtckodhldimhbfaaGreatDoorG36
import Derived.Test.YtckodhldimhbfaaGreatDoorG37
import Derived.Test.YtckodhldimhbfaaGreatDoorG28
set_option maxRecDepth 1000000
set_option maxHeartbeats 16000000
namespace Go.Proofs.YtckodhldimhbfaaGreatDoor
open Go Go.RowKit Go.Ex

noncomputable def Mo.ofD (k T : Int) (D : Int × Int × Int) (s : Res) : Mo × Int :=
 if k ≠ 2 /\ (dayOf T < -4000000 \/ 4000000 < dayOf T \/ called D.1 < -9999 \/ 9999 < called D.1) then (none, 7)
 else if k ≠ 1 /\ s.k ≠ 0 then (none, s.k)
 else (⟨k, if k = 2 then 0 else called D.1, if k = 2 then 0 else D.2.1, if k = 2 then 0 else D.2.2, if k = 1 then 0 else restOf T / 3600, if k = 1 then 0 else restOf T / 60 % 60, if k = 1 then false else s.n, if k = 1 then ⟨#[]⟩ else s.s, if k = 1 then 0 else s.S, false, 0⟩, 0)
theorem Mo.ofM_lit (k : Int) {T y m d : Int} (h : IsDate (dayOf T) y m d) {s : Res} (hs : secOf T = s) : ofM k T = ofD k T (y, m, d) s := by
 unfold ofM ofD
 rw [dateOf_eq h, hs]
def shMA : Mo := ⟨3, 2024, 3, 1, 12, 0, false, ⟨#[53, 53]⟩, 1, true, 60⟩
def shVA : V := .agg [it 3, it 2024, it 3, it 1, it 12, it 0, .bool false, .str [53, 53], it 1, .bool true, it 60]
def shMB : Mo := ⟨1, 2000, 1, 1, 0, 0, false, ⟨#[]⟩, 0, false, 0⟩
def shVB : V := .agg [it 1, it 2000, it 1, it 1, it 0, it 0, .bool false, .str [], it 0, .bool false, it 0]
def shMT1 : Mo := ⟨2, 0, 0, 0, 12, 0, false, ⟨#[48]⟩, 0, true, 0⟩
def shVT1 : V := .agg [it 2, it 0, it 0, it 0, it 12, it 0, .bool false, .str [48], it 0, .bool true, it 0]
def shMT2 : Mo := ⟨2, 0, 0, 0, 13, 0, false, ⟨#[48]⟩, 0, true, 120⟩
def shVT2 : V := .agg [it 2, it 0, it 0, it 0, it 13, it 0, .bool false, .str [48], it 0, .bool true, it 120]
def shMT3 : Mo := ⟨2, 0, 0, 0, 12, 0, false, ⟨#[48]⟩, 0, false, 0⟩
def shVT3 : V := .agg [it 2, it 0, it 0, it 0, it 12, it 0, .bool false, .str [48], it 0, .bool false, it 0]
def shME : Mo := ⟨1, (-1), 2, 29, 0, 0, false, ⟨#[]⟩, 0, false, 0⟩
def shVE : V := .agg [it 1, it (-1), it 2, it 29, it 0, it 0, .bool false, .str [], it 0, .bool false, it 0]
def shMNA : Mo := ⟨3, 2024, 3, 1, 11, 0, false, ⟨#[53, 53]⟩, 1, true, 0⟩
def shVNA : V := .agg [it 3, it 2024, it 3, it 1, it 11, it 0, .bool false, .str [53, 53], it 1, .bool true, it 0]
def shMN2 : Mo := ⟨2, 0, 0, 0, 0, 30, false, ⟨#[48]⟩, 0, true, 60⟩
def shVN2 : V := .agg [it 2, it 0, it 0, it 0, it 0, it 30, .bool false, .str [48], it 0, .bool true, it 60]
def shMNN : Mo := ⟨2, 0, 0, 0, 23, 30, false, ⟨#[48]⟩, 0, true, 0⟩
def shVNN : V := .agg [it 2, it 0, it 0, it 0, it 23, it 30, .bool false, .str [48], it 0, .bool true, it 0]
def shMC : Mo := ⟨1, 2024, 1, 31, 0, 0, false, ⟨#[]⟩, 0, false, 0⟩
def shVC : V := .agg [it 1, it 2024, it 1, it 31, it 0, it 0, .bool false, .str [], it 0, .bool false, it 0]
def shMCA : Mo := ⟨1, 2024, 2, 29, 0, 0, false, ⟨#[]⟩, 0, false, 0⟩
def shVCA : V := .agg [it 1, it 2024, it 2, it 29, it 0, it 0, .bool false, .str [], it 0, .bool false, it 0]
def shMD : Mo := ⟨2, 0, 0, 0, 23, 59, false, ⟨#[53, 57, 55, 53]⟩, 2, false, 0⟩
def shVD : V := .agg [it 2, it 0, it 0, it 0, it 23, it 59, .bool false, .str [53, 57, 55, 53], it 2, .bool false, it 0]
def shMDA : Mo := ⟨2, 0, 0, 0, 0, 0, false, ⟨#[50, 53]⟩, 2, false, 0⟩
def shVDA : V := .agg [it 2, it 0, it 0, it 0, it 0, it 0, .bool false, .str [50, 53], it 2, .bool false, it 0]
def shMZ : Mo := ⟨0, 0, 0, 0, 0, 0, false, ⟨#[]⟩, 0, false, 0⟩
def shVZ : V := .agg [it 0, it 0, it 0, it 0, it 0, it 0, .bool false, .str [], it 0, .bool false, it 0]
theorem sh_read0 : Mo.readM 1 (bts ⟨#[49, 57, 48, 48, 45, 48, 50, 45, 50, 57]⟩) = (shMZ, 6) := by kernel_rfl
theorem sh_read1 : Mo.readM 3 (bts ⟨#[50, 48, 50, 52, 45, 48, 51, 45, 48, 49, 84, 49, 50, 58, 48, 48, 58, 48, 53, 46, 53, 48, 43, 48, 49, 58, 48, 48]⟩) = (shMA, 0) := by kernel_rfl
theorem sh_read2 : Mo.readM 1 (bts ⟨#[50, 48, 48, 48, 45, 48, 49, 45, 48, 49]⟩) = (shMB, 0) := by kernel_rfl
theorem sh_read3 : Mo.readM 2 (bts ⟨#[49, 50, 58, 48, 48, 58, 48, 48, 90]⟩) = (shMT1, 0) := by kernel_rfl
theorem sh_read4 : Mo.readM 2 (bts ⟨#[49, 51, 58, 48, 48, 58, 48, 48, 43, 48, 50, 58, 48, 48]⟩) = (shMT2, 0) := by kernel_rfl
theorem sh_read5 : Mo.readM 2 (bts ⟨#[49, 50, 58, 48, 48, 58, 48, 48]⟩) = (shMT3, 0) := by kernel_rfl
theorem sh_read6 : Mo.readM 1 (bts ⟨#[45, 48, 48, 48, 49, 45, 48, 50, 45, 50, 57]⟩) = (shME, 0) := by kernel_rfl
theorem sh_read7 : Mo.readM 2 (bts ⟨#[48, 48, 58, 51, 48, 58, 48, 48, 43, 48, 49, 58, 48, 48]⟩) = (shMN2, 0) := by kernel_rfl
theorem sh_read8 : Mo.readM 1 (bts ⟨#[50, 48, 50, 52, 45, 48, 49, 45, 51, 49]⟩) = (shMC, 0) := by kernel_rfl
theorem sh_read9 : Mo.readM 2 (bts ⟨#[50, 51, 58, 53, 57, 58, 53, 57, 46, 55, 53]⟩) = (shMD, 0) := by kernel_rfl
theorem sh_textE : Mo.textM shME = (⟨#[45, 48, 48, 48, 49, 45, 48, 50, 45, 50, 57]⟩, 0) := by kernel_rfl
theorem sh_textA : Mo.textM shMA = (⟨#[50, 48, 50, 52, 45, 48, 51, 45, 48, 49, 84, 49, 50, 58, 48, 48, 58, 48, 53, 46, 53, 43, 48, 49, 58, 48, 48]⟩, 0) := by kernel_rfl
theorem sh_textNA : Mo.textM shMNA = (⟨#[50, 48, 50, 52, 45, 48, 51, 45, 48, 49, 84, 49, 49, 58, 48, 48, 58, 48, 53, 46, 53, 90]⟩, 0) := by kernel_rfl
theorem sh_textNN : Mo.textM shMNN = (⟨#[50, 51, 58, 51, 48, 58, 48, 48, 90]⟩, 0) := by kernel_rfl
theorem sh_textCA : Mo.textM shMCA = (⟨#[50, 48, 50, 52, 45, 48, 50, 45, 50, 57]⟩, 0) := by kernel_rfl
theorem sh_textDA : Mo.textM shMDA = (⟨#[48, 48, 58, 48, 48, 58, 48, 48, 46, 50, 53]⟩, 0) := by kernel_rfl
theorem sh_days : daysM shMB = (730119, 0) := by kernel_rfl
theorem sh_cmp1 : cmpM shMT1 shMT2 = (1, true, 0) := by kernel_rfl
theorem sh_cmp2 : cmpM shMT1 shMT3 = (0, false, 0) := by kernel_rfl
theorem sh_half : readR (bts ⟨#[48, 46, 53]⟩) = ⟨false, ⟨#[53]⟩, 1, 0⟩ := by kernel_rfl
theorem sh_secA : Mo.secOf shMA.TA = ⟨false, ⟨#[53, 53]⟩, 1, 0⟩ := by kernel_rfl
theorem sh_norm1 : normalM shMA = (shMNA, 0) := by
 have h := Mo.ofM_lit 3 (T := shMA.TA) (y := 2024) (m := 3) (d := 1) (by refine ⟨?_, ?_, ?_, ?_, ?_⟩ <;> decide +kernel) sh_secA
 unfold normalM
 rw [if_pos (by decide +kernel), show shMA.k = 3 from rfl, h]
 show _ = _
 kernel_rfl
theorem sh_secN : Mo.secOf shMN2.TA = ⟨false, ⟨#[48]⟩, 0, 0⟩ := by kernel_rfl
theorem sh_norm2 : normalM shMN2 = (shMNN, 0) := by
 have h : Mo.ofM 2 shMN2.TA = Mo.ofD 2 shMN2.TA (Mo.dateOf (Mo.dayOf shMN2.TA)) ⟨false, ⟨#[48]⟩, 0, 0⟩ := by unfold Mo.ofM Mo.ofD; rw [sh_secN]
 unfold normalM
 rw [if_pos (by decide +kernel), show shMN2.k = 2 from rfl, h]
 unfold Mo.ofD
 rw [if_neg (by decide), if_neg (by decide)]
 simp only [if_pos]
 show _ = _
 kernel_rfl
theorem sh_add1 : addV shMC 1 false ⟨#[48]⟩ 0 = .tuple #[shMCA.val, .int .i64 0] := by
 have h := Mo.ofM_lit 1 (T := Mo.sumT shMC 1 false ⟨#[48]⟩ 0) (y := 2024) (m := 2) (d := 29) (by refine ⟨?_, ?_, ?_, ?_, ?_⟩ <;> decide +kernel) rfl
 unfold addV Mo.addM
 rw [if_neg (by decide +kernel), if_neg (by decide +kernel), if_neg (by decide +kernel), show shMC.k = 1 from rfl, h]
 show _ = _
 kernel_rfl
theorem sh_secD : Mo.secOf (Mo.sumT shMD 0 false ⟨#[53]⟩ 1) = ⟨false, ⟨#[50, 53]⟩, 2, 0⟩ := by kernel_rfl
theorem sh_add2 : addV shMD 0 false ⟨#[53]⟩ 1 = .tuple #[shMDA.val, .int .i64 0] := by
 have h : Mo.ofM 2 (Mo.sumT shMD 0 false ⟨#[53]⟩ 1) = Mo.ofD 2 (Mo.sumT shMD 0 false ⟨#[53]⟩ 1) (Mo.dateOf (Mo.dayOf (Mo.sumT shMD 0 false ⟨#[53]⟩ 1))) ⟨false, ⟨#[50, 53]⟩, 2, 0⟩ := by unfold Mo.ofM Mo.ofD; rw [sh_secD]
 unfold addV Mo.addM
 rw [if_neg (by decide +kernel), if_neg (by decide +kernel), if_neg (by decide +kernel), show shMD.k = 2 from rfl, h]
 unfold Mo.ofD
 show _ = _
 kernel_rfl
theorem pread_lit {k : Int} {l : ByteArray} {x : Mo} {e : Int} (hs : l.size <= 300) (h : Mo.readM k (bts l) = (x, e)) {w : World} {M : Int} (hV : Vars M w) : Calls Tryz.prog 11 #[.int .i64 k, .string l] w fun r w' => r = .returned (.tuple #[x.val, .int .i64 e]) /\ Below w.heap.size w w' := by
 have q := pread_m k l hs w M hV
 rwa [h] at q
theorem rread_lit {k : Int} {l : ByteArray} {x : Mo} {e : Int} (hs : l.size <= 300) (h : Mo.readM k (bts l) = (x, e)) {w : World} {M : Int} (hV : Vars M w) : Calls Tryz.prog 12 #[.int .i64 k, .string l] w fun r w' => r = .returned (.tuple #[x.val, .int .i64 e]) /\ Below w.heap.size w w' := by
 have q := rread_m k l hs w M hV
 rwa [h] at q
theorem ptext_lit {x : Mo} {t : ByteArray} {e : Int} (hx : x.s.size <= 1000000) (h : Mo.textM x = (t, e)) {w : World} {M : Int} (hV : Vars M w) : Calls Tryz.prog 13 #[x.val] w fun r w' => r = .returned (.tuple #[.string t, .int .i64 e]) /\ Below w.heap.size w w' := by
 have q := ptext_m x hx w M hV
 unfold textV at q
 rwa [h] at q
theorem padd_lit {x : Mo} {u : Int} {n : Bool} {s : ByteArray} {S : Int} {v : Value} (hx : x.s.size <= 1000000) (hs : s.size <= 1000000) (h : addV x u n s S = v) {w : World} {M : Int} (hV : Vars M w) : Calls Tryz.prog 9 #[x.val, .int .i64 u, .agg #[.bool n, .string s, .int .i64 S]] w fun r w' => r = .returned v /\ Below w.heap.size w w' := by
 have q := padd_m (x := x) (u := u) (n := n) (s := s) (S := S) (hx := hx) (hs := hs) (w := w) (hV := hV)
 rwa [h] at q
def shC : List CallX := [⟨11, [it 1, .str [49, 57, 48, 48, 45, 48, 50, 45, 50, 57]], [], .tup [shVZ, it 6]⟩, ⟨12, [it 3, .str [50, 48, 50, 52, 45, 48, 51, 45, 48, 49, 84, 49, 50, 58, 48, 48, 58, 48, 53, 46, 53, 48, 43, 48, 49, 58, 48, 48]], [], .tup [shVA, it 0]⟩, ⟨12, [it 1, .str [50, 48, 48, 48, 45, 48, 49, 45, 48, 49]], [], .tup [shVB, it 0]⟩, ⟨12, [it 2, .str [49, 50, 58, 48, 48, 58, 48, 48, 90]], [], .tup [shVT1, it 0]⟩, ⟨12, [it 2, .str [49, 51, 58, 48, 48, 58, 48, 48, 43, 48, 50, 58, 48, 48]], [], .tup [shVT2, it 0]⟩, ⟨12, [it 2, .str [49, 50, 58, 48, 48, 58, 48, 48]], [], .tup [shVT3, it 0]⟩, ⟨11, [it 1, .str [45, 48, 48, 48, 49, 45, 48, 50, 45, 50, 57]], [], .tup [shVE, it 0]⟩, ⟨12, [it 2, .str [48, 48, 58, 51, 48, 58, 48, 48, 43, 48, 49, 58, 48, 48]], [], .tup [shVN2, it 0]⟩, ⟨12, [it 1, .str [50, 48, 50, 52, 45, 48, 49, 45, 51, 49]], [], .tup [shVC, it 0]⟩, ⟨12, [it 2, .str [50, 51, 58, 53, 57, 58, 53, 57, 46, 55, 53]], [], .tup [shVD, it 0]⟩, ⟨17, [shVB], [], .tup [it 730119, it 0]⟩, ⟨21, [shVT1, shVT2], [], .tup [it 1, .bool true, it 0]⟩, ⟨21, [shVT1, shVT3], [], .tup [it 0, .bool false, it 0]⟩, ⟨27, [.str [48, 46, 53]], [], .tup [.agg [.bool false, .str [53], it 1], it 0]⟩, ⟨13, [shVE], [], .tup [.str [45, 48, 48, 48, 49, 45, 48, 50, 45, 50, 57], it 0]⟩, ⟨13, [shVA], [], .tup [.str [50, 48, 50, 52, 45, 48, 51, 45, 48, 49, 84, 49, 50, 58, 48, 48, 58, 48, 53, 46, 53, 43, 48, 49, 58, 48, 48], it 0]⟩, ⟨13, [shVNA], [], .tup [.str [50, 48, 50, 52, 45, 48, 51, 45, 48, 49, 84, 49, 49, 58, 48, 48, 58, 48, 53, 46, 53, 90], it 0]⟩, ⟨13, [shVNN], [], .tup [.str [50, 51, 58, 51, 48, 58, 48, 48, 90], it 0]⟩, ⟨13, [shVCA], [], .tup [.str [50, 48, 50, 52, 45, 48, 50, 45, 50, 57], it 0]⟩, ⟨13, [shVDA], [], .tup [.str [48, 48, 58, 48, 48, 58, 48, 48, 46, 50, 53], it 0]⟩, ⟨19, [shVA], [], .tup [shVNA, it 0]⟩, ⟨19, [shVN2], [], .tup [shVNN, it 0]⟩, ⟨9, [shVC, it 1, .agg [.bool false, .str [48], it 0]], [], .tup [shVCA, it 0]⟩, ⟨9, [shVD, it 0, .agg [.bool false, .str [53], it 1]], [], .tup [shVDA, it 0]⟩]
theorem sh_ok (E : Nat -> Value) (M : Int) : AllX Tryz.prog E (Vars M) shC :=
 ⟨⟨rfl, fk, fun _ L w hV => pread_lit (by decide) sh_read0 hV⟩,
  ⟨rfl, fk, fun _ L w hV => rread_lit (by decide) sh_read1 hV⟩,
  ⟨rfl, fk, fun _ L w hV => rread_lit (by decide) sh_read2 hV⟩,
  ⟨rfl, fk, fun _ L w hV => rread_lit (by decide) sh_read3 hV⟩,
  ⟨rfl, fk, fun _ L w hV => rread_lit (by decide) sh_read4 hV⟩,
  ⟨rfl, fk, fun _ L w hV => rread_lit (by decide) sh_read5 hV⟩,
  ⟨rfl, fk, fun _ L w hV => pread_lit (by decide) sh_read6 hV⟩,
  ⟨rfl, fk, fun _ L w hV => rread_lit (by decide) sh_read7 hV⟩,
  ⟨rfl, fk, fun _ L w hV => rread_lit (by decide) sh_read8 hV⟩,
  ⟨rfl, fk, fun _ L w hV => rread_lit (by decide) sh_read9 hV⟩,
  ⟨rfl, fk, fun _ L w hV => pdaysm_is shMB (by decide) _ _ sh_days w M hV⟩,
  ⟨rfl, fk, fun _ L w hV => pcmpm_is shMT1 shMT2 (by decide) (by decide) _ _ _ sh_cmp1 w M hV⟩,
  ⟨rfl, fk, fun _ L w hV => pcmpm_is shMT1 shMT3 (by decide) (by decide) _ _ _ sh_cmp2 w M hV⟩,
  ⟨rfl, fk, fun _ L w hV => rread_is _ (by decide) _ sh_half w⟩,
  ⟨rfl, fk, fun _ L w hV => ptext_lit (by decide) sh_textE hV⟩,
  ⟨rfl, fk, fun _ L w hV => ptext_lit (by decide) sh_textA hV⟩,
  ⟨rfl, fk, fun _ L w hV => ptext_lit (by decide) sh_textNA hV⟩,
  ⟨rfl, fk, fun _ L w hV => ptext_lit (by decide) sh_textNN hV⟩,
  ⟨rfl, fk, fun _ L w hV => ptext_lit (by decide) sh_textCA hV⟩,
  ⟨rfl, fk, fun _ L w hV => ptext_lit (by decide) sh_textDA hV⟩,
  ⟨rfl, fk, fun _ L w hV => pnormal_is shMA (by decide) _ _ sh_norm1 w M hV⟩,
  ⟨rfl, fk, fun _ L w hV => pnormal_is shMN2 (by decide) _ _ sh_norm2 w M hV⟩,
  ⟨rfl, fk, fun _ L w hV => padd_lit (by decide) (by decide) sh_add1 hV⟩,
  ⟨rfl, fk, fun _ L w hV => padd_lit (by decide) (by decide) sh_add2 hV⟩, trivial⟩
theorem run_shown : chk (runTr Tryz.prog nG (fun _ => none) gd moT shC 100 8 [] h0) (.leaf (.bool true)) [] = true := by decide +kernel
theorem shown_is (w : World) (M : Int) (hV : Vars M w) : Calls Tryz.prog 8 #[] w fun e w' => e = .returned (.bool true) /\ Below w.heap.size w w' :=
 tree_run (env := []) run_shown (sh_ok _ M) rfl trivial rfl hV
def upTo (i : Nat) : X × Bool := (.lt (.int 300) (.len (.at i)), false)
theorem upTo_le {n : Nat} (h : decide ((300 : Int) < (n : Int)) = false) : n <= 300 := by
 have := of_decide_eq_false h
 omega
end Go.Proofs.YtckodhldimhbfaaGreatDoor
