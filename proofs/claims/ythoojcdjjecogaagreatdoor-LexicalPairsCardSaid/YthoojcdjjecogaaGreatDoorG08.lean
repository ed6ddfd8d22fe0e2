/-
  Part 8 of the proof: what functions return, and plain facts (Mdate). Conditions: each theorem names its own.
-/
set_option maxRecDepth 1000000
set_option maxHeartbeats 16000000
namespace Go.Proofs.YthoojcdjjecogaaGreatDoor.Mo

def lg (y : Int) : Int := if (y % 4 = 0 /\ y % 100 ≠ 0) \/ y % 400 = 0 then 1 else 0
theorem lg_01 (y : Int) : lg y = 0 \/ lg y = 1 := by unfold lg; split <;> simp
def dim (y m : Int) : Int := if m = 2 then 28 + lg y else if m = 4 \/ m = 6 \/ m = 9 \/ m = 11 then 30 else 31
theorem dim_bd (y m : Int) : 28 <= dim y m /\ dim y m <= 31 := by
 have := lg_01 y
 unfold dim; split
 ·omega
 ·split <;> omega
def bef (y : Int) : Int := 365 * y + y / 4 - y / 100 + y / 400
theorem bef_succ (y : Int) : bef y = bef (y - 1) + 365 + lg y := by
 unfold bef lg
 split <;> omega
theorem bef_400 (y : Int) : bef (y + 400) = bef y + 146097 := by unfold bef; omega
def cum (y m : Int) : Int := (367 * m - 362) / 12 - (if m <= 2 then 0 else 2 - lg y)
theorem cum_one (y : Int) : cum y 1 = 0 := by unfold cum; rw [if_pos (by decide)]; decide
theorem cum_succ (y m : Int) (h1 : 1 <= m) (h2 : m <= 12) : cum y (m + 1) = cum y m + dim y m := by
 have h : m = 1 \/ m = 2 \/ m = 3 \/ m = 4 \/ m = 5 \/ m = 6 \/ m = 7 \/ m = 8 \/ m = 9 \/ m = 10 \/ m = 11 \/ m = 12 := by omega
 rcases h with rfl | rfl | rfl | rfl | rfl | rfl | rfl | rfl | rfl | rfl | rfl | rfl <;> simp [cum, dim] <;> omega
theorem cum_end (y : Int) : cum y 13 = 365 + lg y := by simp [cum]; omega
theorem cum_mono (y m k : Int) (h1 : 1 <= m) (h2 : m < k) (h3 : k <= 13) : cum y m + dim y m <= cum y k := by
 rw [<- cum_succ y m h1 (by omega)]
 have := lg_01 y
 unfold cum
 split <;> split <;> omega
theorem cum_lo (y m : Int) (h1 : 1 <= m) (h2 : m <= 13) : 0 <= cum y m /\ cum y m <= 366 := by
 have := lg_01 y
 unfold cum
 split <;> omega
def dayN (y m d : Int) : Int := bef (y - 1) + cum y m + d - 1
structure IsDate (n y m d : Int) : Prop where
 m1 : 1 <= m
 m2 : m <= 12
 d1 : 1 <= d
 d2 : d <= dim y m
 eq : n = dayN y m d
theorem date_year {n y m d : Int} (h : IsDate n y m d) : bef (y - 1) <= n /\ n < bef y := by
 obtain ⟨h1, h2, h3, h4, h5⟩ := h
 have hl := cum_lo y m h1 (by omega)
 have hs := cum_succ y m h1 h2
 have he := cum_end y
 have hb := bef_succ y
 have hm : cum y (m + 1) <= cum y 13 := by
  rcases (by omega : m + 1 < 13 \/ 13 <= m + 1) with h | h
  ·have := cum_mono y (m + 1) 13 (by omega) h (by omega)
   have := dim_bd y (m + 1); omega
  ·rw [show m + 1 = 13 by omega]; exact Int.le_refl _
 unfold dayN at h5
 omega
theorem dayN_bd {y m d : Int} (h1 : 1 <= m) (h2 : m <= 12) (h3 : 1 <= d) (h4 : d <= dim y m) : bef (y - 1) <= dayN y m d /\ dayN y m d < bef y := date_year ⟨h1, h2, h3, h4, rfl⟩
def counted (y : Int) : Int := if y < 0 then y + 1 else y
theorem over4 {n : Int} (h : -40000 <= n) : (n + 40000).tdiv 4 - 10000 = n / 4 := by
 rw [Int.tdiv_eq_ediv_of_nonneg (by omega)]; omega
theorem over100 {n : Int} (h : -40000 <= n) : (n + 40000).tdiv 100 - 400 = n / 100 := by
 rw [Int.tdiv_eq_ediv_of_nonneg (by omega)]; omega
theorem over400 {n : Int} (h : -40000 <= n) : (n + 40000).tdiv 400 - 100 = n / 400 := by
 rw [Int.tdiv_eq_ediv_of_nonneg (by omega)]; omega
end Go.Proofs.YthoojcdjjecogaaGreatDoor.Mo
