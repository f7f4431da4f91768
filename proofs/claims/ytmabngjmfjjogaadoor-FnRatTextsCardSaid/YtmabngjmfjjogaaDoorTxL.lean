/- Plain: floors, roundings; FloorOf, RoundDownTo, MakeRat of both, for all arguments. -/
import Derived.Test.YtmabngjmfjjogaaDoorVals
namespace Go.Proofs.YtmabngjmfjjogaaDoor
open Go.RowKit

def floQ (n d : Int) : Int × Bool := if okQ n d = true then (downQ n d, true) else (0, false)
def rdnQ (n d m : Int) : Int × Int × Bool := if okQ n d = true ∧ 1 ≤ m ∧ m ≤ 1000000000 then lowQ (downQ (n * m) d) m else (0, 0, false)
def mkQ (n d : Int) : Int × Int × Bool := if ((-1000000000000000000 ≤ n ∧ n ≤ 1000000000000000000) ∧ (-1000000000000000000 ≤ d ∧ d ≤ 1000000000000000000)) ∧ d ≠ 0 then lowQ n d else (0, 0, false)
theorem down_ediv (a b : Int) (hb : 1 ≤ b) : downQ a b = a / b := by
  unfold downQ
  have h1 := Int.mul_tdiv_add_tmod a b
  have h2 := Int.mul_ediv_add_emod a b
  have h3 := Int.emod_nonneg a (show b ≠ 0 by omega)
  have h4 := Int.emod_lt_of_pos a (show 0 < b by omega)
  rw [Int.tdiv_eq_ediv]
  have h5 : a.tmod b = a % b - ((if 0 ≤ a ∨ b ∣ a then 0 else b.natAbs : Nat) : Int) := Int.tmod_eq_emod
  have hs : b.sign = 1 := Int.sign_eq_one_of_pos (by omega)
  rw [hs]
  by_cases h : 0 ≤ a ∨ b ∣ a
  · rw [if_pos h] at h5 ⊢
    rw [if_neg (by omega)]
    omega
  · rw [if_neg h] at h5 ⊢
    rw [if_pos (by omega)]
    omega
theorem down_le (a b : Int) (hb : 1 ≤ b) : downQ a b * b ≤ a ∧ a < (downQ a b + 1) * b := by
  rw [down_ediv a b hb]
  have h2 := Int.mul_ediv_add_emod a b
  have h3 := Int.emod_nonneg a (show b ≠ 0 by omega)
  have h4 := Int.emod_lt_of_pos a (show 0 < b by omega)
  rw [Int.mul_comm] at h2
  rw [Int.add_mul]
  omega
theorem flo_ok {n d : Int} (h : okQ n d = true) : downQ n d * d ≤ n ∧ n < (downQ n d + 1) * d ∧ -1000000000 ≤ downQ n d ∧ downQ n d ≤ 1000000000 := by
  have b := okQ_bd h
  have l := down_le n d b.1
  refine ⟨l.1, l.2, ?_, ?_⟩
  · apply Int.not_lt.1
    intro hh
    have : (downQ n d + 1) * d ≤ (-1000000000) * 1 := by
      have h1 : (downQ n d + 1) * d ≤ (downQ n d + 1) * 1 := Int.mul_le_mul_of_nonpos_left (by omega) (by omega)
      omega
    omega
  · apply Int.not_lt.1
    intro hh
    have h1 : downQ n d * 1 ≤ downQ n d * d := Int.mul_le_mul_of_nonneg_left (by omega) (by omega)
    omega
theorem toR_cross {a b c d : Int} (hb : 1 ≤ b) (hd : 1 ≤ d) (h : toR (a, b) = toR (c, d)) : a * d = c * b := by
  have := (cmpQ_eq hb hd).2 h
  unfold cmpQ at this
  split at this
  · omega
  · split at this
    · omega
    · omega
theorem rdn_back {n d m a b : Int} (h : rdnQ n d m = (a, b, true)) : okQ n d = true ∧ okQ a b = true ∧ (1 ≤ m ∧ m ≤ 1000000000) ∧ lessQ n d a b = false ∧ m.tmod b = 0 ∧ rdnQ a b m = (a, b, true) := by
  unfold rdnQ at h
  split at h
  · rename_i hk
    obtain ⟨h1, h2, h3⟩ := hk
    have bd := okQ_bd h1
    have hl := h
    rw [lowQ_fit _ _ (by omega)] at h
    obtain ⟨e, ok⟩ := fitR_yes h
    have bb := okQ_bd ok
    have hx := toR_cross bb.1 h2 e
    have hdn := down_le (n * m) d bd.1
    have hg := okQ_gcd ok
    have hdvd : b ∣ m := by
      have : b ∣ a * m := ⟨downQ (n * m) d, by rw [hx, Int.mul_comm]⟩
      have h1 := Int.natAbs_dvd_natAbs.2 this
      rw [Int.natAbs_mul] at h1
      have hc : Nat.Coprime b.natAbs a.natAbs := by
        have : Nat.gcd a.natAbs b.natAbs = 1 := hg
        rw [Nat.gcd_comm] at this
        exact this
      exact Int.natAbs_dvd_natAbs.1 (hc.dvd_of_dvd_mul_left h1)
    refine ⟨h1, ok, ⟨h2, h3⟩, ?_, Int.tmod_eq_zero_of_dvd hdvd, ?_⟩
    · unfold lessQ
      rw [decide_eq_false]
      intro hh
      -- n * b < a * d, so n * b * m < a * d * m = downQ .. * b * d ≤ n * m * b
      have k1 : n * b * m < a * d * m := Int.mul_lt_mul_of_pos_right hh (by omega)
      have k2 : downQ (n * m) d * d * b ≤ n * m * b := Int.mul_le_mul_of_nonneg_right hdn.1 (by omega)
      have k3 : a * d * m = downQ (n * m) d * d * b := by
        calc a * d * m = (a * m) * d := by rw [Int.mul_assoc, Int.mul_comm d m, ← Int.mul_assoc]
          _ = downQ (n * m) d * b * d := by rw [hx]
          _ = downQ (n * m) d * d * b := by rw [Int.mul_assoc, Int.mul_comm b d, ← Int.mul_assoc]
      have k4 : n * b * m = n * m * b := by rw [Int.mul_assoc, Int.mul_comm b m, ← Int.mul_assoc]
      omega
    · unfold rdnQ
      rw [if_pos ⟨ok, h2, h3⟩, hx, down_ediv _ _ bb.1, Int.mul_ediv_cancel _ (by omega)]
      exact hl
  · cases h

theorem iFloorOf_any (n d x : Int) (t : Bool) (h : floQ n d = (x, t)) (w : World) :
    Calls Tryd.prog 42 #[.agg #[.int .i64 n, .int .i64 d]] w fun e w' => e = .returned (.tuple #[.int .i64 x, .bool t]) ∧ Below w.heap.size w w' := by
  unfold floQ at h
  split at h
  · rename_i hk; cases h; exact implFloorOf_yes n d hk w
  · rename_i hk; cases h; exact implFloorOf_no n d (by simpa using hk) w
theorem sFloorOf_any (n d x : Int) (t : Bool) (h : floQ n d = (x, t)) (w : World) :
    Calls Tryd.prog 43 #[.agg #[.int .i64 n, .int .i64 d]] w fun e w' => e = .returned (.tuple #[.int .i64 x, .bool t]) ∧ Below w.heap.size w w' := by
  unfold floQ at h
  split at h
  · rename_i hk; cases h; exact specFloorOf_yes n d hk w
  · rename_i hk; cases h; exact specFloorOf_no n d (by simpa using hk) w
theorem iRound_any (n d m a b : Int) (t : Bool) (h : rdnQ n d m = (a, b, t)) (w : World) :
    Calls Tryd.prog 46 #[.agg #[.int .i64 n, .int .i64 d], .int .i64 m] w (LowEnd a b t w) := by
  unfold rdnQ at h
  split at h
  · rename_i hk; exact implRound_yes n d m a b t hk.1 hk.2.1 hk.2.2 h w
  · rename_i hk
    cases h
    rcases ho : okQ n d with _ | _
    · exact implRound_no1 n d m ho w
    · exact implRound_no2 n d m ho (fun hh => hk ⟨ho, hh⟩) w
theorem sRound_any (n d m a b : Int) (t : Bool) (h : rdnQ n d m = (a, b, t)) (w : World) :
    Calls Tryd.prog 47 #[.agg #[.int .i64 n, .int .i64 d], .int .i64 m] w (LowEnd a b t w) := by
  unfold rdnQ at h
  split at h
  · rename_i hk; exact specRound_yes n d m a b t hk.1 hk.2.1 hk.2.2 h w
  · rename_i hk
    cases h
    rcases ho : okQ n d with _ | _
    · exact specRound_no1 n d m ho w
    · exact specRound_no2 n d m ho (fun hh => hk ⟨ho, hh⟩) w
theorem iMake_any (n d a b : Int) (t : Bool) (h : mkQ n d = (a, b, t)) (w : World) :
    Calls Tryd.prog 50 #[.int .i64 n, .int .i64 d] w (LowEnd a b t w) := by
  unfold mkQ at h
  split at h
  · rename_i hk; exact implMake_yes n d a b t hk.1.1 hk.1.2 hk.2 h w
  · rename_i hk
    cases h
    by_cases h1 : -1000000000000000000 ≤ n ∧ n ≤ 1000000000000000000
    · by_cases h2 : -1000000000000000000 ≤ d ∧ d ≤ 1000000000000000000
      · by_cases h3 : d = 0
        · subst h3; exact implMake_no3 n h1 w
        · exact absurd ⟨⟨h1, h2⟩, h3⟩ hk
      · exact implMake_no2 n d h1 h2 w
    · exact implMake_no1 n d h1 w
theorem sMake_any (n d a b : Int) (t : Bool) (h : mkQ n d = (a, b, t)) (w : World) :
    Calls Tryd.prog 51 #[.int .i64 n, .int .i64 d] w (LowEnd a b t w) := by
  unfold mkQ at h
  split at h
  · rename_i hk; exact specMake_yes n d a b t hk.1.1 hk.1.2 hk.2 h w
  · rename_i hk
    cases h
    by_cases h1 : -1000000000000000000 ≤ n ∧ n ≤ 1000000000000000000
    · by_cases h2 : -1000000000000000000 ≤ d ∧ d ≤ 1000000000000000000
      · by_cases h3 : d = 0
        · subst h3; exact specMake_no3 n h1 w
        · exact absurd ⟨⟨h1, h2⟩, h3⟩ hk
      · exact specMake_no2 n d h1 h2 w
    · exact specMake_no1 n d h1 w

end Go.Proofs.YtmabngjmfjjogaaDoor
