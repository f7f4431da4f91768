/- The reference's piece and value. -/
import Derived.Test.YtkdhhopfefhdjaaVal2
import Derived.Test.YtkdhhopfefhdjaaImGood
namespace Go.Proofs.Ytkdhhopfefhdjaa
open Go.RowKit

def RelPc (N : Nat) (w : World) (i : Value) (wr : World) : Prop := ∃ k : Nat, k ≤ N ∧ i = .int .i64 k ∧ Below w.heap.size w wr

set_option maxHeartbeats 1600000 in
theorem imPiece_raw (ps : List Pt) (v : Value) (x1 x2 : Int) (N : Nat) (w : World) (hv : RdP w v ps) (hx : AllX ps) (k1 : Sm x1) (k2 : Sm x2) (hN : N + 1 < ps.length) (hbe : ∀ k y, k < N → ps[k + 1]? = some y → lessQ y.1.1 y.1.2 x1 x2 = true) (hat : ∀ y, ps[N + 1]? = some y → lessQ y.1.1 y.1.2 x1 x2 = false) :
    Calls Try.prog 134 #[v, .agg #[.int .i64 x1, .int .i64 x2]] w fun e w' => e = .returned (.int .i64 N) ∧ Below w.heap.size w w' := by
  obtain ⟨A, c, rfl, hl, hm, hcell⟩ := hv
  unfold maxLen at hm
  obtain ⟨g, o, rfl, hg, hc⟩ := hcell (by intro h; rw [h] at hN; simp at hN)
  have HC := Lib.hid hc
  have HX := Lib.hid hx
  have HBE := Lib.hid hbe
  have HAT := Lib.hid hat
  clear hcell hc hx hbe hat
  go_enter Try.func134, Try.ntmps134
  go_wp2_with fail
  go_name_world W hW
  have e0 : W.cell? ⟨w.heap.size, 0, none⟩ = some (.int .i64 x1) := by rw [← hW]; simp [go_sem]
  have e1 : W.cell? ⟨w.heap.size, 1, none⟩ = some (.int .i64 x2) := by rw [← hW]; simp [go_sem]
  have hB : Below w.heap.size w W := by rw [← hW]; go_grown
  clear hW
  go_loopw [5] (fun i wr => RelPc N W i wr) (fun i _ => N - (intOf i).toNat)
  case atStart => exact ⟨0, Nat.zero_le _, rfl, Below.refl _ _⟩
  case round =>
    obtain ⟨k, hk, rfl, hb⟩ := hrel
    by_cases hlt : k + 2 < ps.length
    · have hq := List.getElem?_eq_getElem (show k + 1 < ps.length by omega)
      have hmem := List.getElem_mem (show k + 1 < ps.length by omega)
      generalize ps[k + 1] = q at *
      obtain ⟨⟨a1, a2⟩, a3, a4⟩ := q
      obtain ⟨c0, c1, c2, c3⟩ := HC.out (k + 1) _ hq
      have sx := HX.out _ hmem
      have hg' : g < W.heap.size := Nat.lt_of_lt_of_le hg hB.size
      rw [← hB.cell (p := ⟨g, _, none⟩) hg, ← hb.cell (p := ⟨g, _, none⟩) hg'] at c0 c1
      have d0 := cellB hb e0
      have d1 := cellB hb e1
      clear c2 c3
      have HQ := Lib.hid hq
      have HSX := Lib.hid sx
      clear hq hmem sx
      obtain ⟨v, hv⟩ : ∃ v, cmpQ a1 a2 x1 x2 = v := ⟨_, rfl⟩
      have hle : lessQ a1 a2 x1 x2 = decide (v < 0) := by rw [lessQ_cmp, hv]
      have HV := Lib.hid hv
      have b0 : (0 : Int) ≤ (k : Int) := by omega
      have b1 : (k : Int) + 2 < (ps.length : Int) := by omega
      have b1' : decide ((k : Int) + 2 < (ps.length : Int)) = true := by simpa using b1
      have b2 : (k : Int) + 1 < (ps.length : Int) := by omega
      have b3 : (0 : Int) ≤ (k : Int) + 1 := by omega
      have t2 : ((k : Int) + 1).toNat = k + 1 := by omega
      have v1 : IntKind.i64.wrap ((k : Int) + 2) = (k : Int) + 2 := IntWalk.i64_in _ (by omega)
      have v2 : IntKind.i64.wrap ((k : Int) + 1) = (k : Int) + 1 := IntWalk.i64_in _ (by omega)
      rcases Int.lt_or_le v 0 with h0 | h0
      · have hd : decide (v < (0 : Int)) = true := by simpa using h0
        have hkN : k < N := by
          by_cases e : k = N
          · subst e; have := HAT.out _ HQ.out; rw [hle, hd] at this; cases this
          · omega
        clear hle hv
        go_wp2_with fail
        refine wp_region_below (by kernel_rfl) (by kernel_rfl) ?_
        iterate 16 (first
          | (refine stepS rfl ?_; simp only [Act.put, List.setIfInBounds_toArray, List.set_cons_zero, List.set_cons_succ])
          | (refine stepV (v := ?_) rfl (fun W hW => ?_) ?_
             rotate_left
             focus
               have qc0 := cellB hW.out c0
               have qc1 := cellB hW.out c1
               have qc2 := cellB hW.out d0
               have qc3 := cellB hW.out d1
               go_simp
               try with_reducible rfl
               done
             simp only [Act.put, List.setIfInBounds_toArray, List.set_cons_zero, List.set_cons_succ])
          | (refine stepC rfl (fun W hW => ?_) (fun W hW => callB hW (raCmp_is a1 a2 x1 x2 v HSX.out ⟨k1, k2⟩ HV.out _)) ?_
             focus
               go_simp
               try with_reducible rfl
               done
             simp only [Act.put, List.setIfInBounds_toArray, List.set_cons_zero, List.set_cons_succ]))
        refine stepN ?_
        intro w1 hw1
        have hB2 := nextW hb hw1.out
        clear hw1 c0 c1 d0 d1 hb v1 v2 t2 hd b1'
        go_wp2_with fail
        go_roundw
        case rel => exact ⟨k + 1, by omega, by go_num, hB2⟩
        case measure => simp [intOf]; omega
      · have hd : decide (v < (0 : Int)) = false := by simpa using h0
        obtain rfl : k = N := by
          by_cases e : k = N
          · exact e
          · have := HBE.out _ _ (show k < N by omega) HQ.out; rw [hle, hd] at this; cases this
        clear hle hv
        go_wp2_with fail
        refine wp_region_below (by kernel_rfl) (by kernel_rfl) ?_
        iterate 16 (first
          | (refine stepS rfl ?_; simp only [Act.put, List.setIfInBounds_toArray, List.set_cons_zero, List.set_cons_succ])
          | (refine stepV (v := ?_) rfl (fun W hW => ?_) ?_
             rotate_left
             focus
               have qc0 := cellB hW.out c0
               have qc1 := cellB hW.out c1
               have qc2 := cellB hW.out d0
               have qc3 := cellB hW.out d1
               go_simp
               try with_reducible rfl
               done
             simp only [Act.put, List.setIfInBounds_toArray, List.set_cons_zero, List.set_cons_succ])
          | (refine stepC rfl (fun W hW => ?_) (fun W hW => callB hW (raCmp_is a1 a2 x1 x2 v HSX.out ⟨k1, k2⟩ HV.out _)) ?_
             focus
               go_simp
               try with_reducible rfl
               done
             simp only [Act.put, List.setIfInBounds_toArray, List.set_cons_zero, List.set_cons_succ]))
        refine stepN ?_
        intro w1 hw1
        have hB2 := nextW hb hw1.out
        clear hw1 c0 c1 d0 d1 hb v1 v2 t2 hd b1'
        go_wp2_with fail
        go_ret
        exact ⟨rfl, nextW hB hB2⟩
    · obtain rfl : k = N := by omega
      have b1' : decide ((k : Int) + 2 < (ps.length : Int)) = false := by simp; omega
      have b1 : (ps.length : Int) ≤ (k : Int) + 2 := by omega
      have v1 : IntKind.i64.wrap ((k : Int) + 2) = (k : Int) + 2 := IntWalk.i64_in _ (by omega)
      go_wp2_with fail
      refine wp_region_below (by kernel_rfl) (by kernel_rfl) ?_
      iterate 16 (first
        | (refine stepS rfl ?_; simp only [Act.put, List.setIfInBounds_toArray, List.set_cons_zero, List.set_cons_succ])
        | (refine stepV (v := ?_) rfl (fun W hW => ?_) ?_
           rotate_left
           focus
             go_simp
             try with_reducible rfl
             done
           simp only [Act.put, List.setIfInBounds_toArray, List.set_cons_zero, List.set_cons_succ]))
      refine stepN ?_
      intro w1 hw1
      have hB2 := nextW hb hw1.out
      clear hw1 v1 b1'
      go_wp2_with fail
      go_ret
      exact ⟨rfl, nextW hB hB2⟩

end Go.Proofs.Ytkdhhopfefhdjaa
