/- 'lowest' of the program and 'raMake' of the reference: a fraction in lowest terms. -/
import Derived.Test.YtkdhhopfefhdjaaRat2
namespace Go.Proofs.Ytkdhhopfefhdjaa
open Go.RowKit

theorem isRat_is (n d : Int) (t : Bool) (h : okQ n d = t) (w : World) :
    Calls Try.prog 136 #[.agg #[.int .i64 n, .int .i64 d]] w fun e w' => e = .returned (.bool t) ∧ Below w.heap.size w w' := by
  rw [← h]; exact isRat_any n d w
theorem raGood_is (n d : Int) (t : Bool) (h : okQ n d = t) (w : World) :
    Calls Try.prog 133 #[.agg #[.int .i64 n, .int .i64 d]] w fun e w' => e = .returned (.bool t) ∧ Below w.heap.size w w' := by
  rw [← h]; exact raGood_any n d w

theorem natAbs_tdiv_le (n c : Int) : (n.tdiv c).natAbs ≤ n.natAbs := by
  rw [Int.natAbs_tdiv]; exact Nat.div_le_self ..

/-- What 'lowest' gives. -/
def LowEnd (a b : Int) (t : Bool) (w : World) (e : Ending) (w' : World) : Prop :=
  e = .returned (.tuple #[.agg #[.int .i64 a, .int .i64 b], .bool t]) ∧ Below w.heap.size w w'

set_option maxHeartbeats 400000 in
theorem lowest_pos (n d a b : Int) (t : Bool) (h : lowQ n d = (a, b, t)) (hn : -4000000000000000000 ≤ n ∧ n ≤ 4000000000000000000) (h0 : 0 < d) (hd : d ≤ 4000000000000000000) (w : World) :
    Calls Try.prog 177 #[.int .i64 n, .int .i64 d] w (LowEnd a b t w) := by
  have hg : 0 < Int.gcd n d := Int.gcd_pos_of_ne_zero_right n (by omega)
  have hgd : Int.gcd n d ≤ d.natAbs := Nat.le_of_dvd (by omega) (Nat.gcd_dvd_right ..)
  obtain ⟨hk, ht, hf⟩ := lowQ_parts h
  have hcut : cutQ n d = (Int.gcd n d : Int) := by unfold cutQ; rw [if_neg (by omega)]
  rw [hcut] at hk ht
  clear h hcut
  generalize hG : Int.gcd n d = g at *
  have HG := Lib.hid hG
  clear hG
  have hx := natAbs_tdiv_le n g
  have hy := natAbs_tdiv_le d g
  have HK := Lib.hid hk
  have HT := Lib.hid ht
  have HF := Lib.hid hf
  clear hk ht hf
  go_enter Try.func177, Try.ntmps177
  go_wp2_with fail
  refine (gcd_any n d (by omega) (by omega) _).mono ?_
  rintro e w1 ⟨he, k, rfl⟩
  rw [HG.out] at he
  subst he
  go_wp2_with fail
  go_region
  go_wp2_with fail
  refine (isRat_is _ _ t HK.out _).mono ?_
  rintro e w1 ⟨rfl, hb⟩
  obtain ⟨hc, hf⟩ := bcell hb
  have q0 : w1.cell? ⟨w.heap.size, 0, none⟩ = some (.int .i64 0) := by rw [hc _ _ (by simp; omega)]; simp [go_sem]
  have q1 : w1.cell? ⟨w.heap.size, 1, none⟩ = some (.int .i64 0) := by rw [hc _ _ (by simp; omega)]; simp [go_sem]
  cases t
  · obtain ⟨rfl, rfl⟩ := HF.out rfl
    go_wp2_with fail
    refine bodyPost_ret (v := .tuple #[.agg #[.int .i64 (0), .int .i64 (0)], .bool false]) (by simp [results, Try.results177, go_sem, q0, q1]) rfl ⟨rfl, ?_⟩
    exact ((((below_drewN ((Below.refl _ _).alloc (Nat.le_refl _) _) _).alloc (by simp) _).trans (hb.mono (by simp; omega))).setCell (by simp) _).setCell (by simp) _
  · obtain ⟨rfl, rfl⟩ := HT.out rfl
    go_wp2_with fail
    refine bodyPost_ret (v := .tuple #[.agg #[.int .i64 (n.tdiv g), .int .i64 (d.tdiv g)], .bool true]) (by simp [results, Try.results177, go_sem, q0, q1]) rfl ⟨rfl, ?_⟩
    exact ((((below_drewN ((Below.refl _ _).alloc (Nat.le_refl _) _) _).alloc (by simp) _).trans (hb.mono (by simp; omega))).setCell (by simp) _).setCell (by simp) _

set_option maxHeartbeats 400000 in
theorem lowest_neg (n d a b : Int) (t : Bool) (h : lowQ n d = (a, b, t)) (hn : -4000000000000000000 ≤ n ∧ n ≤ 4000000000000000000) (h0 : d < 0) (hd : -4000000000000000000 ≤ d) (w : World) :
    Calls Try.prog 177 #[.int .i64 n, .int .i64 d] w (LowEnd a b t w) := by
  have hg : 0 < Int.gcd n d := Int.gcd_pos_of_ne_zero_right n (by omega)
  have hgd : Int.gcd n d ≤ d.natAbs := Nat.le_of_dvd (by omega) (Nat.gcd_dvd_right ..)
  obtain ⟨hk, ht, hf⟩ := lowQ_parts h
  have hcut : cutQ n d = -(Int.gcd n d : Int) := by unfold cutQ; rw [if_pos h0]
  rw [hcut, Int.tdiv_neg, Int.tdiv_neg] at hk ht
  clear h hcut
  generalize hG : Int.gcd n d = g at *
  have HG := Lib.hid hG
  clear hG
  have hx := natAbs_tdiv_le n g
  have hy := natAbs_tdiv_le d g
  have HK := Lib.hid hk
  have HT := Lib.hid ht
  have HF := Lib.hid hf
  clear hk ht hf
  go_enter Try.func177, Try.ntmps177
  go_wp2_with fail
  refine (gcd_any n d (by omega) (by omega) _).mono ?_
  rintro e w1 ⟨he, k, rfl⟩
  rw [HG.out] at he
  subst he
  go_wp2_with fail
  go_region
  go_wp2_with fail
  refine (isRat_is _ _ t HK.out _).mono ?_
  rintro e w1 ⟨rfl, hb⟩
  obtain ⟨hc, hf⟩ := bcell hb
  have q0 : w1.cell? ⟨w.heap.size, 0, none⟩ = some (.int .i64 0) := by rw [hc _ _ (by simp; omega)]; simp [go_sem]
  have q1 : w1.cell? ⟨w.heap.size, 1, none⟩ = some (.int .i64 0) := by rw [hc _ _ (by simp; omega)]; simp [go_sem]
  cases t
  · obtain ⟨rfl, rfl⟩ := HF.out rfl
    go_wp2_with fail
    refine bodyPost_ret (v := .tuple #[.agg #[.int .i64 (0), .int .i64 (0)], .bool false]) (by simp [results, Try.results177, go_sem, q0, q1]) rfl ⟨rfl, ?_⟩
    exact ((((below_drewN ((Below.refl _ _).alloc (Nat.le_refl _) _) _).alloc (by simp) _).trans (hb.mono (by simp; omega))).setCell (by simp) _).setCell (by simp) _
  · obtain ⟨rfl, rfl⟩ := HT.out rfl
    go_wp2_with fail
    refine bodyPost_ret (v := .tuple #[.agg #[.int .i64 (-(n.tdiv g)), .int .i64 (-(d.tdiv g))], .bool true]) (by simp [results, Try.results177, go_sem, q0, q1]) rfl ⟨rfl, ?_⟩
    exact ((((below_drewN ((Below.refl _ _).alloc (Nat.le_refl _) _) _).alloc (by simp) _).trans (hb.mono (by simp; omega))).setCell (by simp) _).setCell (by simp) _

theorem lowest_any (n d a b : Int) (t : Bool) (h : lowQ n d = (a, b, t)) (hn : -4000000000000000000 ≤ n ∧ n ≤ 4000000000000000000) (h0 : d ≠ 0) (hd : -4000000000000000000 ≤ d ∧ d ≤ 4000000000000000000) (w : World) :
    Calls Try.prog 177 #[.int .i64 n, .int .i64 d] w (LowEnd a b t w) := by
  rcases Int.lt_or_gt_of_ne h0 with h1 | h1
  · exact lowest_neg n d a b t h hn h1 hd.1 w
  · exact lowest_pos n d a b t h hn h1 hd.2 w

set_option maxHeartbeats 400000 in
theorem raMake_pos (n d a b : Int) (t : Bool) (h : lowQ n d = (a, b, t)) (hn : -4000000000000000000 ≤ n ∧ n ≤ 4000000000000000000) (h0 : 0 < d) (hd : d ≤ 4000000000000000000) (w : World) :
    Calls Try.prog 155 #[.int .i64 n, .int .i64 d] w (LowEnd a b t w) := by
  have hg : 0 < Int.gcd n d := Int.gcd_pos_of_ne_zero_right n (by omega)
  have hgd : Int.gcd n d ≤ d.natAbs := Nat.le_of_dvd (by omega) (Nat.gcd_dvd_right ..)
  obtain ⟨hk, ht, hf⟩ := lowQ_parts h
  have hcut : cutQ n d = (Int.gcd n d : Int) := by unfold cutQ; rw [if_neg (by omega)]
  rw [hcut] at hk ht
  clear h hcut
  generalize hG : Int.gcd n d = g at *
  have HG := Lib.hid hG
  clear hG
  have hx := natAbs_tdiv_le n g
  have hy := natAbs_tdiv_le d g
  have HK := Lib.hid hk
  have HT := Lib.hid ht
  have HF := Lib.hid hf
  clear hk ht hf
  go_enter Try.func155, Try.ntmps155
  go_wp2_with fail
  refine (l1Abs_any n (by omega) _).mono ?_
  rintro e w1 ⟨rfl, rfl⟩
  go_wp2_with fail
  refine (l1Abs_any d (by omega) _).mono ?_
  rintro e w1 ⟨rfl, rfl⟩
  go_wp2_with fail
  refine (raCommon_any n.natAbs d.natAbs (by omega) (by omega) _).mono ?_
  rintro e w1 ⟨he, rfl⟩
  rw [show Nat.gcd n.natAbs d.natAbs = g from HG.out] at he
  subst he
  go_wp2_with fail
  go_region
  go_wp2_with fail
  refine (raGood_is _ _ t HK.out _).mono ?_
  rintro e w1 ⟨rfl, hb⟩
  obtain ⟨hc, hf⟩ := bcell hb
  have q0 : w1.cell? ⟨w.heap.size, 0, none⟩ = some (.int .i64 0) := by rw [hc _ _ (by simp; omega)]; simp [go_sem]
  have q1 : w1.cell? ⟨w.heap.size, 1, none⟩ = some (.int .i64 0) := by rw [hc _ _ (by simp; omega)]; simp [go_sem]
  cases t
  · obtain ⟨rfl, rfl⟩ := HF.out rfl
    go_wp2_with fail
    refine bodyPost_ret (v := .tuple #[.agg #[.int .i64 (0), .int .i64 (0)], .bool false]) (by simp [results, Try.results155, go_sem, q0, q1]) rfl ⟨rfl, ?_⟩
    exact ((((below_drewN ((Below.refl _ _).alloc (Nat.le_refl _) _) _).alloc (by simp) _).trans (hb.mono (by simp; omega))).setCell (by simp) _).setCell (by simp) _
  · obtain ⟨rfl, rfl⟩ := HT.out rfl
    go_wp2_with fail
    refine bodyPost_ret (v := .tuple #[.agg #[.int .i64 (n.tdiv g), .int .i64 (d.tdiv g)], .bool true]) (by simp [results, Try.results155, go_sem, q0, q1]) rfl ⟨rfl, ?_⟩
    exact ((((below_drewN ((Below.refl _ _).alloc (Nat.le_refl _) _) _).alloc (by simp) _).trans (hb.mono (by simp; omega))).setCell (by simp) _).setCell (by simp) _

set_option maxHeartbeats 400000 in
theorem raMake_neg (n d a b : Int) (t : Bool) (h : lowQ n d = (a, b, t)) (hn : -4000000000000000000 ≤ n ∧ n ≤ 4000000000000000000) (h0 : d < 0) (hd : -4000000000000000000 ≤ d) (w : World) :
    Calls Try.prog 155 #[.int .i64 n, .int .i64 d] w (LowEnd a b t w) := by
  have hg : 0 < Int.gcd n d := Int.gcd_pos_of_ne_zero_right n (by omega)
  have hgd : Int.gcd n d ≤ d.natAbs := Nat.le_of_dvd (by omega) (Nat.gcd_dvd_right ..)
  obtain ⟨hk, ht, hf⟩ := lowQ_parts h
  have hcut : cutQ n d = -(Int.gcd n d : Int) := by unfold cutQ; rw [if_pos h0]
  rw [hcut, Int.tdiv_neg, Int.tdiv_neg] at hk ht
  clear h hcut
  generalize hG : Int.gcd n d = g at *
  have HG := Lib.hid hG
  clear hG
  have hx := natAbs_tdiv_le n g
  have hy := natAbs_tdiv_le d g
  have HK := Lib.hid hk
  have HT := Lib.hid ht
  have HF := Lib.hid hf
  clear hk ht hf
  go_enter Try.func155, Try.ntmps155
  go_wp2_with fail
  refine (l1Abs_any n (by omega) _).mono ?_
  rintro e w1 ⟨rfl, rfl⟩
  go_wp2_with fail
  refine (l1Abs_any d (by omega) _).mono ?_
  rintro e w1 ⟨rfl, rfl⟩
  go_wp2_with fail
  refine (raCommon_any n.natAbs d.natAbs (by omega) (by omega) _).mono ?_
  rintro e w1 ⟨he, rfl⟩
  rw [show Nat.gcd n.natAbs d.natAbs = g from HG.out] at he
  subst he
  go_wp2_with fail
  go_region
  go_wp2_with fail
  refine (raGood_is _ _ t HK.out _).mono ?_
  rintro e w1 ⟨rfl, hb⟩
  obtain ⟨hc, hf⟩ := bcell hb
  have q0 : w1.cell? ⟨w.heap.size, 0, none⟩ = some (.int .i64 0) := by rw [hc _ _ (by simp; omega)]; simp [go_sem]
  have q1 : w1.cell? ⟨w.heap.size, 1, none⟩ = some (.int .i64 0) := by rw [hc _ _ (by simp; omega)]; simp [go_sem]
  cases t
  · obtain ⟨rfl, rfl⟩ := HF.out rfl
    go_wp2_with fail
    refine bodyPost_ret (v := .tuple #[.agg #[.int .i64 (0), .int .i64 (0)], .bool false]) (by simp [results, Try.results155, go_sem, q0, q1]) rfl ⟨rfl, ?_⟩
    exact ((((below_drewN ((Below.refl _ _).alloc (Nat.le_refl _) _) _).alloc (by simp) _).trans (hb.mono (by simp; omega))).setCell (by simp) _).setCell (by simp) _
  · obtain ⟨rfl, rfl⟩ := HT.out rfl
    go_wp2_with fail
    refine bodyPost_ret (v := .tuple #[.agg #[.int .i64 (-(n.tdiv g)), .int .i64 (-(d.tdiv g))], .bool true]) (by simp [results, Try.results155, go_sem, q0, q1]) rfl ⟨rfl, ?_⟩
    exact ((((below_drewN ((Below.refl _ _).alloc (Nat.le_refl _) _) _).alloc (by simp) _).trans (hb.mono (by simp; omega))).setCell (by simp) _).setCell (by simp) _

set_option maxHeartbeats 400000 in
theorem raMake_zero (n : Int) (w : World) :
    Calls Try.prog 155 #[.int .i64 n, .int .i64 0] w (LowEnd 0 0 false w) := by
  go_enter Try.func155, Try.ntmps155
  go_wp2_with fail
  refine bodyPost_ret (v := .tuple #[.agg #[.int .i64 0, .int .i64 0], .bool false]) (by simp [results, Try.results155, go_sem]) rfl ⟨rfl, ?_⟩
  go_grown

theorem raMake_any (n d a b : Int) (t : Bool) (h : lowQ n d = (a, b, t)) (hn : -4000000000000000000 ≤ n ∧ n ≤ 4000000000000000000) (hd : -4000000000000000000 ≤ d ∧ d ≤ 4000000000000000000) (w : World) :
    Calls Try.prog 155 #[.int .i64 n, .int .i64 d] w (LowEnd a b t w) := by
  by_cases h0 : d = 0
  · subst h0
    rw [lowQ_zero] at h
    simp only [Prod.mk.injEq] at h
    obtain ⟨rfl, rfl, rfl⟩ := h
    exact raMake_zero n w
  · rcases Int.lt_or_gt_of_ne h0 with h1 | h1
    · exact raMake_neg n d a b t h hn h1 hd.1 w
    · exact raMake_pos n d a b t h hn h1 hd.2 w

end Go.Proofs.Ytkdhhopfefhdjaa
