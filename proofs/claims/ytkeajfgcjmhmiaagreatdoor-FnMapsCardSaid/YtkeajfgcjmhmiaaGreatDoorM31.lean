/- The laws' comparisons of maps: pSameMap, qMap. · The laws' comparisons: qRats, qUp. · IsMap of the program. · Plain: the fixed points of a map and the fractions before a value. -/
import Derived.Test.YtkeajfgcjmhmiaaGreatDoorM3
import Derived.Test.YtkeajfgcjmhmiaaGreatDoorM13
namespace Go.Proofs.YtkeajfgcjmhmiaaGreatDoor
open Go.RowKit

set_option maxHeartbeats 1600000 in
theorem qMap_same (qs : List Pt) (v u : Value) (w : World) (hv : RdP w v qs) (hu : RdP w u qs) :
    Calls Tryz.prog 17 #[v, u] w fun e w' => e = .returned (.bool true) ∧ Below w.heap.size w w' := by
  obtain ⟨A, c, rfl, hl, hm, hcell⟩ := hv
  obtain ⟨A', c', rfl, hl', hm', hcell'⟩ := hu
  unfold maxLen at hm hm'
  have HC := Lib.hid hcell
  have HC' := Lib.hid hcell'
  clear hcell hcell'
  go_enter Tryz.func17, Tryz.ntmps17
  go_wp2_with fail
  go_loopw [13] (fun i wr => EqTo qs.length w i wr) (fun i _ => qs.length - (intOf i).toNat)
  case atStart => exact ⟨0, Nat.zero_le _, rfl, Below.refl _ _⟩
  case round =>
    obtain ⟨k, hk, rfl, hb⟩ := hrel
    by_cases hlt : k < qs.length
    · obtain ⟨g, o, rfl, hg, hc⟩ := HC.out (by intro h; rw [h] at hlt; simp at hlt)
      obtain ⟨g', o', rfl, hg', hc'⟩ := HC'.out (by intro h; rw [h] at hlt; simp at hlt)
      have hq := hc k qs[k] (List.getElem?_eq_getElem hlt)
      have hq' := hc' k qs[k] (List.getElem?_eq_getElem hlt)
      generalize qs[k] = q at *
      obtain ⟨⟨a1, a2⟩, a3, a4⟩ := q
      obtain ⟨c0, c1, c2, c3⟩ := hq
      obtain ⟨d0, d1, d2, d3⟩ := hq'
      rw [← hb.cell (p := ⟨g, _, none⟩) hg] at c0 c1 c2 c3
      rw [← hb.cell (p := ⟨g', _, none⟩) hg'] at d0 d1 d2 d3
      clear hc hc' HC HC'
      have v1 : IntKind.i64.wrap ((k : Int) + 1) = (k : Int) + 1 := IntWalk.i64_in _ (by omega)
      go_wp2_with fail
      go_region
      go_wp2_with fail
      go_roundw
      case rel => exact ⟨k + 1, by omega, by go_num, nextW hb (by go_grown)⟩
      case measure => simp [intOf] <;> omega
    · obtain rfl : k = qs.length := by omega
      go_wp2_with fail
      go_ret
      exact ⟨rfl, hb⟩

end Go.Proofs.YtkeajfgcjmhmiaaGreatDoor

namespace Go.Proofs.YtkeajfgcjmhmiaaGreatDoor
open Go.RowKit

set_option maxHeartbeats 800000 in
theorem qUp_is (n1 d1 n2 d2 : Int) (s1 : Sm n1 ∧ Sm d1) (s2 : Sm n2 ∧ Sm d2) (w : World) :
    Calls Tryz.prog 19 #[.agg #[.int .i64 n1, .int .i64 d1], .agg #[.int .i64 n2, .int .i64 d2]] w fun e w' => e = .returned (.int .i64 (cmpQ n1 d1 n2 d2)) ∧ Below w.heap.size w w' := by
  have m1 := s1.1.mul s2.2
  have m2 := s2.1.mul s1.2
  have v1 : IntKind.i64.wrap (n1 * d2) = n1 * d2 := IntWalk.i64_in _ (by omega)
  have v2 : IntKind.i64.wrap (n2 * d1) = n2 * d1 := IntWalk.i64_in _ (by omega)
  have v3 : IntKind.i64.wrap (n1 * d2 - n2 * d1) = n1 * d2 - n2 * d1 := IntWalk.i64_in _ (by omega)
  obtain ⟨r, hr⟩ : ∃ r, cmpQ n1 d1 n2 d2 = r := ⟨_, rfl⟩
  have HR := Lib.hid hr
  by_cases h1 : n1 * d2 - n2 * d1 < 0
  · obtain rfl : r = -1 := by rw [← hr]; unfold cmpQ; rw [if_pos (by omega)]
    have h1' : decide (n1 * d2 - n2 * d1 < 0) = true := decide_eq_true h1
    clear hr
    go_enter Tryz.func19, Tryz.ntmps19
    go_wp2_with fail
    go_ret
    exact ⟨by rw [HR.out]; rfl, by go_grown⟩
  · have h1' : decide (n1 * d2 - n2 * d1 < 0) = false := decide_eq_false h1
    by_cases h2 : 0 < n1 * d2 - n2 * d1
    · obtain rfl : r = 1 := by rw [← hr]; unfold cmpQ; rw [if_neg (by omega), if_pos (by omega)]
      have h2' : decide (0 < n1 * d2 - n2 * d1) = true := decide_eq_true h2
      clear hr
      go_enter Tryz.func19, Tryz.ntmps19
      go_wp2_with fail
      go_ret
      exact ⟨by rw [HR.out]; rfl, by go_grown⟩
    · obtain rfl : r = 0 := by rw [← hr]; unfold cmpQ; rw [if_neg (by omega), if_neg (by omega)]
      have h2' : decide (0 < n1 * d2 - n2 * d1) = false := decide_eq_false h2
      clear hr
      go_enter Tryz.func19, Tryz.ntmps19
      go_wp2_with fail
      go_ret
      exact ⟨by rw [HR.out]; rfl, by go_grown⟩

end Go.Proofs.YtkeajfgcjmhmiaaGreatDoor

namespace Go.Proofs.YtkeajfgcjmhmiaaGreatDoor
open Go.RowKit
set_option maxHeartbeats 800000 in
theorem implIsMap_is (ps : List Pt) (v : Value) (t : Bool) (w : World) (hv : RdP w v ps) (hn : ps.length ≤ 1048576) (ht : okMap ps = t) :
    Calls Tryz.prog 18 #[v] w fun e w' => e = .returned (.bool t) ∧ Below w.heap.size w w' := by
  go_enter Tryz.func18, Tryz.ntmps18
  go_wp2_with fail
  refine (isMap_is ps v t _ hv hn ht).mono ?_
  rintro e w1 ⟨rfl, hb⟩
  go_wp2_with fail
  go_ret
  exact ⟨rfl, hb⟩
end Go.Proofs.YtkeajfgcjmhmiaaGreatDoor

namespace Go.Proofs.YtkeajfgcjmhmiaaGreatDoor
open Go.RowKit

theorem toR_mul {a b : Int} (h : okQ a b = true) : toR (a, b) * (b : Rat) = (a : Rat) := by
  unfold toR; exact Rat.div_mul_cancel (den_ne h)

/-- Coordinates. -/
def CoP (p : Pt) : Prop := coordQ p.1.1 p.1.2 = true ∧ coordQ p.2.1 p.2.2 = true

theorem bd2 {a b : Int} {m k : Int} (h1 : -m ≤ a ∧ a ≤ m) (h2 : -k ≤ b ∧ b ≤ k) (hm : 0 ≤ m) : -(m * k) ≤ a * b ∧ a * b ≤ m * k := by
  have hk : 0 ≤ k := by omega
  have e1 : (a * b).natAbs ≤ (m * k).natAbs := by
    rw [Int.natAbs_mul, Int.natAbs_mul]
    exact Nat.mul_le_mul (by omega) (by omega)
  have e2 : 0 ≤ m * k := Int.mul_nonneg hm hk
  omega

end Go.Proofs.YtkeajfgcjmhmiaaGreatDoor
