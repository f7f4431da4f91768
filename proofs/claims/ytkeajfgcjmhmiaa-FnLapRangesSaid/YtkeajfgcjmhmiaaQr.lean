/- The laws' comparisons: qRats, qUp. -/
import Derived.Test.YtkeajfgcjmhmiaaMaps
namespace Go.Proofs.Ytkeajfgcjmhmiaa
open Go.RowKit

set_option maxHeartbeats 1600000 in
theorem qRats_same (qs : List Q) (v u : Value) (w : World) (hv : RdQ w v qs) (hu : RdQ w u qs) :
    Calls Try.prog 15 #[v, u] w fun e w' => e = .returned (.bool true) ∧ Below w.heap.size w w' := by
  obtain ⟨A, c, rfl, hl, hm, hcell⟩ := hv
  obtain ⟨A', c', rfl, hl', hm', hcell'⟩ := hu
  unfold maxLen at hm hm'
  have HC := Lib.hid hcell
  have HC' := Lib.hid hcell'
  clear hcell hcell'
  go_enter Try.func15, Try.ntmps15
  go_wp2_with fail
  go_loopw [13] (fun i wr => EqTo qs.length w i wr) (fun i _ => qs.length - (intOf i).toNat)
  case atStart => exact ⟨0, Nat.zero_le _, rfl, Below.refl _ _⟩
  case round =>
    obtain ⟨k, hk, rfl, hb⟩ := hrel
    by_cases hlt : k < qs.length
    · obtain ⟨g, o, rfl, hg, hc⟩ := HC.out (by intro h; rw [h] at hlt; simp at hlt)
      obtain ⟨g', o', rfl, hg', hc'⟩ := HC'.out (by intro h; rw [h] at hlt; simp at hlt)
      have hq := hc k qs[k] (List.getElem?_eq_getElem hlt)
      have hq' := hc' k qs[k] (List.getElem?_eq_getElem hlt)
      generalize qs[k] = q at *
      obtain ⟨a1, a2⟩ := q
      obtain ⟨c0, c1⟩ := hq
      obtain ⟨d0, d1⟩ := hq'
      rw [← hb.cell (p := ⟨g, _, none⟩) hg] at c0 c1
      rw [← hb.cell (p := ⟨g', _, none⟩) hg'] at d0 d1
      clear hc hc' HC HC'
      have v1 : IntKind.i64.wrap ((k : Int) + 1) = (k : Int) + 1 := IntWalk.i64_in _ (by omega)
      go_wp2_with fail
      go_region
      go_wp2_with fail
      go_roundw
      case rel => exact ⟨k + 1, by omega, by go_num, nextW hb (by go_grown)⟩
      case measure => simp [intOf]; omega
    · obtain rfl : k = qs.length := by omega
      go_wp2_with fail
      go_ret
      exact ⟨rfl, hb⟩

set_option maxHeartbeats 800000 in
theorem qUp_is (n1 d1 n2 d2 : Int) (s1 : Sm n1 ∧ Sm d1) (s2 : Sm n2 ∧ Sm d2) (w : World) :
    Calls Try.prog 17 #[.agg #[.int .i64 n1, .int .i64 d1], .agg #[.int .i64 n2, .int .i64 d2]] w fun e w' => e = .returned (.int .i64 (cmpQ n1 d1 n2 d2)) ∧ Below w.heap.size w w' := by
  have m1 := s1.1.mul s2.2
  have m2 := s2.1.mul s1.2
  have v1 : IntKind.i64.wrap (n1 * d2) = n1 * d2 := IntWalk.i64_in _ (by omega)
  have v2 : IntKind.i64.wrap (n2 * d1) = n2 * d1 := IntWalk.i64_in _ (by omega)
  have v3 : IntKind.i64.wrap (n1 * d2 - n2 * d1) = n1 * d2 - n2 * d1 := IntWalk.i64_in _ (by omega)
  obtain ⟨r, hr⟩ : ∃ r, cmpQ n1 d1 n2 d2 = r := ⟨_, rfl⟩
  have HR := Lib.hid hr
  by_cases h1 : n1 * d2 - n2 * d1 < 0
  · obtain rfl : r = -1 := by rw [← hr]; unfold cmpQ; rw [if_pos (by omega)]
    have h1' : decide (n1 * d2 - n2 * d1 < 0) = true := decide_eq_true h1
    clear hr
    go_enter Try.func17, Try.ntmps17
    go_wp2_with fail
    go_ret
    exact ⟨by rw [HR.out]; rfl, by go_grown⟩
  · have h1' : decide (n1 * d2 - n2 * d1 < 0) = false := decide_eq_false h1
    by_cases h2 : 0 < n1 * d2 - n2 * d1
    · obtain rfl : r = 1 := by rw [← hr]; unfold cmpQ; rw [if_neg (by omega), if_pos (by omega)]
      have h2' : decide (0 < n1 * d2 - n2 * d1) = true := decide_eq_true h2
      clear hr
      go_enter Try.func17, Try.ntmps17
      go_wp2_with fail
      go_ret
      exact ⟨by rw [HR.out]; rfl, by go_grown⟩
    · obtain rfl : r = 0 := by rw [← hr]; unfold cmpQ; rw [if_neg (by omega), if_neg (by omega)]
      have h2' : decide (0 < n1 * d2 - n2 * d1) = false := decide_eq_false h2
      clear hr
      go_enter Try.func17, Try.ntmps17
      go_wp2_with fail
      go_ret
      exact ⟨by rw [HR.out]; rfl, by go_grown⟩

end Go.Proofs.Ytkeajfgcjmhmiaa
