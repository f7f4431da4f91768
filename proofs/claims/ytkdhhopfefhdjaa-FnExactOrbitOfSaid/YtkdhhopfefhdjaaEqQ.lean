/- eqRatS on two slices that read the same. -/
import Derived.Test.YtkdhhopfefhdjaaEqP
namespace Go.Proofs.Ytkdhhopfefhdjaa
open Go.RowKit

set_option maxHeartbeats 1600000 in
theorem eqRatS_same (qs : List Q) (v u : Value) (w : World) (hv : RdQ w v qs) (hu : RdQ w u qs) :
    Calls Try.prog 41 #[v, u] w fun e w' => e = .returned (.bool true) ∧ Below w.heap.size w w' := by
  obtain ⟨A, c, rfl, hl, hm, hcell⟩ := hv
  obtain ⟨A', c', rfl, hl', hm', hcell'⟩ := hu
  unfold maxLen at hm hm'
  have HC := Lib.hid hcell
  have HC' := Lib.hid hcell'
  clear hcell hcell'
  go_enter Try.func41, Try.ntmps41
  go_wp2_with fail
  go_loopw [5] (fun i wr => EqTo qs.length w i wr) (fun i _ => qs.length - (intOf i).toNat)
  case atStart => exact ⟨0, Nat.zero_le _, rfl, Below.refl _ _⟩
  case round =>
    obtain ⟨k, hk, rfl, hb⟩ := hrel
    by_cases hlt : k < qs.length
    · obtain ⟨g, o, rfl, hg, hc⟩ := HC.out (by intro h; rw [h] at hlt; simp at hlt)
      obtain ⟨g', o', rfl, hg', hc'⟩ := HC'.out (by intro h; rw [h] at hlt; simp at hlt)
      have hq := hc k qs[k] (List.getElem?_eq_getElem hlt)
      have hq' := hc' k qs[k] (List.getElem?_eq_getElem hlt)
      generalize qs[k] = q at *
      obtain ⟨a1, a2⟩ := q
      obtain ⟨c0, c1⟩ := hq
      obtain ⟨d0, d1⟩ := hq'
      rw [← hb.cell (p := ⟨g, _, none⟩) hg] at c0 c1
      rw [← hb.cell (p := ⟨g', _, none⟩) hg'] at d0 d1
      clear hc hc' HC HC'
      go_wp2_with fail
      refine wp_region_below (by kernel_rfl) (by kernel_rfl) ?_
      iterate 10 (first
        | (refine stepS rfl ?_; simp only [Act.put, List.setIfInBounds_toArray, List.set_cons_zero, List.set_cons_succ])
        | (refine stepV (v := ?_) rfl (fun W hW => ?_) ?_
           rotate_left
           focus
             have qc0 := cellB hW.out c0
             have qc1 := cellB hW.out c1
             have qc4 := cellB hW.out d0
             have qc5 := cellB hW.out d1
             go_simp
             try with_reducible rfl
             done
           simp only [Act.put, List.setIfInBounds_toArray, List.set_cons_zero, List.set_cons_succ])
        | (refine stepC rfl (fun W hW => ?_) (fun W hW => callB hW (eqRat_same a1 a2 _)) ?_
           focus
             go_simp
             try with_reducible rfl
             done
           simp only [Act.put, List.setIfInBounds_toArray, List.set_cons_zero, List.set_cons_succ]))
      refine stepN ?_
      intro w1 hw1
      have hB := nextW hb hw1.out
      clear hw1
      go_wp2_with fail
      go_roundw
      case rel => exact ⟨k + 1, by omega, by go_num, hB⟩
      case measure => simp [intOf]; omega
    · obtain rfl : k = qs.length := by omega
      go_wp2_with fail
      go_ret
      exact ⟨rfl, hb⟩

end Go.Proofs.Ytkdhhopfefhdjaa
