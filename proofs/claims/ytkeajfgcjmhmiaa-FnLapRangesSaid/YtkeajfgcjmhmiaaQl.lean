/- The laws' comparisons of lists of numbers: qInts, qLists. -/
import Derived.Test.YtkeajfgcjmhmiaaLapC
namespace Go.Proofs.Ytkeajfgcjmhmiaa
open Go.RowKit

set_option maxHeartbeats 800000 in
theorem qInts_same (b c : Nat) (r : Row3) (w : World) (hb : w.heap[b]? = some (row3 r)) (hc : w.heap[c]? = some (row3 r)) :
    Calls Try.prog 36 #[.slice (some ⟨b, 0, none⟩) 3 3, .slice (some ⟨c, 0, none⟩) 3 3] w fun e w' => e = .returned (.bool true) ∧ Below w.heap.size w w' := by
  have HB := Lib.hid hb
  have HC := Lib.hid hc
  clear hb hc
  go_enter Try.func36, Try.ntmps36
  go_wp2_with fail
  go_loopw [13] (fun i wr => EqTo 3 w i wr) (fun i _ => 3 - (intOf i).toNat)
  case atStart => exact ⟨0, Nat.zero_le _, rfl, Below.refl _ _⟩
  case round =>
    obtain ⟨k, hk, rfl, hx⟩ := hrel
    by_cases hlt : k < 3
    · have c0 := (row3_at (heapB hx HB.out) hlt).1
      have d0 := (row3_at (heapB hx HC.out) hlt).1
      generalize at3 r k = x at *
      have b0 : (0 : Int) ≤ (k : Int) := by omega
      have b1 : (k : Int) < 3 := by omega
      go_wp2_with fail
      refine wp_region_below (by kernel_rfl) (by kernel_rfl) ?_
      iterate 9 (first
        | (refine stepS rfl ?_; simp only [Act.put, List.setIfInBounds_toArray, List.set_cons_zero, List.set_cons_succ])
        | (refine stepV (v := ?_) rfl (fun W hW => ?_) ?_
           rotate_left
           focus
             have qc0 := cellB hW.out c0
             have qc1 := cellB hW.out d0
             go_simp
             try with_reducible rfl
             done
           simp only [Act.put, List.setIfInBounds_toArray, List.set_cons_zero, List.set_cons_succ]))
      refine stepN ?_
      intro w2 hw2
      have hB := nextW hx hw2.out
      clear hw2 c0 d0
      go_wp2_with fail
      go_roundw
      case rel => exact ⟨k + 1, by omega, by go_num, hB⟩
      case measure => simp [intOf]; omega
    · obtain rfl : k = 3 := by omega
      go_wp2_with fail
      go_ret
      exact ⟨rfl, hx⟩

set_option maxHeartbeats 1600000 in
theorem qLists_same (b1 b2 : Nat) (v u : Value) (rs : List Row3) (w : World) (hv : OwL b1 w v rs) (hu : OwL b2 w u rs) :
    Calls Try.prog 14 #[v, u] w fun e w' => e = .returned (.bool true) ∧ Below w.heap.size w w' := by
  obtain ⟨A, c, rfl, hl, hm⟩ := hv.shape
  obtain ⟨A', c', rfl, hl', hm'⟩ := hu.shape
  unfold maxLen at hm hm'
  have HV := Lib.hid hv
  have HU := Lib.hid hu
  clear hv hu
  go_enter Try.func14, Try.ntmps14
  go_wp2_with fail
  go_loopw [13] (fun i wr => EqTo rs.length w i wr) (fun i _ => rs.length - (intOf i).toNat)
  case atStart => exact ⟨0, Nat.zero_le _, rfl, Below.refl _ _⟩
  case round =>
    obtain ⟨k, hk, rfl, hb⟩ := hrel
    by_cases hlt : k < rs.length
    · have hr := List.getElem?_eq_getElem hlt
      obtain ⟨g, cp, bo, he, -, -, -, -, oc, h1⟩ := HV.out.get hr
      obtain ⟨g', cp', bo', he', -, -, -, -, oc', h2⟩ := HU.out.get hr
      simp only [Value.slice.injEq] at he he'
      obtain ⟨rfl, -, -⟩ := he
      obtain ⟨rfl, -, -⟩ := he'
      replace oc := cellB hb oc
      replace oc' := cellB hb oc'
      have H1 := Lib.hid (heapB hb h1)
      have H2 := Lib.hid (heapB hb h2)
      generalize rs[k] = r at *
      clear h1 h2 hr
      have b0 : (0 : Int) ≤ (k : Int) := by omega
      have b1' : (k : Int) < (rs.length : Int) := by omega
      go_wp2_with fail
      refine wp_region_below (by kernel_rfl) (by kernel_rfl) ?_
      iterate 10 (first
        | (refine stepS rfl ?_; simp only [Act.put, List.setIfInBounds_toArray, List.set_cons_zero, List.set_cons_succ])
        | (refine stepV (v := ?_) rfl (fun W hW => ?_) ?_
           rotate_left
           focus
             have qc0 := cellB hW.out oc
             have qc1 := cellB hW.out oc'
             go_simp
             try with_reducible rfl
             done
           simp only [Act.put, List.setIfInBounds_toArray, List.set_cons_zero, List.set_cons_succ])
        | (refine stepC rfl (fun W hW => ?_) (fun W hW => callB hW (qInts_same bo bo' r _ (heapB hW.out H1.out) (heapB hW.out H2.out))) ?_
           focus
             go_simp
             try with_reducible rfl
             done
           simp only [Act.put, List.setIfInBounds_toArray, List.set_cons_zero, List.set_cons_succ]))
      refine stepN ?_
      intro w2 hw2
      have hB := nextW hb hw2.out
      clear hw2 oc oc'
      go_wp2_with fail
      go_roundw
      case rel => exact ⟨k + 1, by omega, by go_num, hB⟩
      case measure => simp [intOf]; omega
    · obtain rfl : k = rs.length := by omega
      go_wp2_with fail
      go_ret
      exact ⟨rfl, hb⟩

end Go.Proofs.Ytkeajfgcjmhmiaa
