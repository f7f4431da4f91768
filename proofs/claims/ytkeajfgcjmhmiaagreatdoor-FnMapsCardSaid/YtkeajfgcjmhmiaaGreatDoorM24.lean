/- Texts of fractions: raText, ratText, RatText of both. -/
import Derived.Test.YtkeajfgcjmhmiaaGreatDoorM22
import Derived.Test.YtkeajfgcjmhmiaaGreatDoorM23
import Derived.Lib.AppendIntMem
namespace Go.Proofs.YtkeajfgcjmhmiaaGreatDoor
open Go.RowKit

/-- The text of a fraction. -/
def ratL (n d : Int) : List UInt8 := Lib.itoa n ++ [47] ++ Lib.itoa d
theorem itoa_len {n : Int} (h0 : -9223372036854775808 ≤ n) (h1 : n ≤ 9223372036854775807) : (Lib.itoa n).length ≤ 21 := Lib.itoa_length_le n h0 h1
theorem ratL_len {n d : Int} (h : okQ n d = true) : (ratL n d).length ≤ 43 := by
  have b := okQ_bd h
  have h1 := itoa_len (n := n) (by omega) (by omega)
  have h2 := itoa_len (n := d) (by omega) (by omega)
  unfold ratL
  simp only [List.length_append, List.length_singleton]
  omega
/-- The library's table of powers is as its text lays it. -/
def Tab (w : World) : Prop := Lib.TabIs Tryz.prog w "internal/strconv.uint64pow10" .u64 Lib.pow10Tab
theorem Tab.keep {w w' : World} (h : Tab w) (hb : Below w.heap.size w w') : Tab w' := by
  unfold Tab Lib.TabIs World.var? at *
  cases hg : Tryz.prog.globalNamed "internal/strconv.uint64pow10" with
  | none => simp [hg] at h
  | some g =>
    simp only [hg, Option.bind_some] at h ⊢
    have hlt : g < w.heap.size := by
      rcases Nat.lt_or_ge g w.heap.size with h' | h'
      · exact h'
      · rw [Array.getElem?_eq_none h'] at h; simp at h
    rw [hb.block g hlt]
    exact h
theorem itoa_is (n : Int) (h0 : -9223372036854775808 ≤ n) (h1 : n ≤ 9223372036854775807) (w : World) (h : Tab w) :
    Calls Tryz.prog 89 #[.int .i64 n] w fun e w' => e = .returned (str (Lib.itoa n)) ∧ Below w.heap.size w w' := by
  refine (Tryz.strconv_Itoa n h0 h1 w h).mono ?_
  rintro e w' ⟨rfl, k, os, rfl⟩
  exact ⟨rfl, Lib.below_grow _ _ (Nat.le_refl _) _ _⟩

set_option maxRecDepth 100000 in
set_option maxHeartbeats 1600000 in
theorem raText_is (n d : Int) (h : okQ n d = true) (w : World) :
    Calls Tryz.prog 64 #[.agg #[.int .i64 n, .int .i64 d]] w fun e w' => e = .returned (str (ratL n d)) ∧ Below w.heap.size w w' := by
  have b := okQ_bd h
  have h1 := itoa_len (n := n) (by omega) (by omega)
  have h2 := itoa_len (n := d) (by omega) (by omega)
  have HI := Lib.hid (fun W => l1Int_is n (by omega) (by omega) W)
  have HN := Lib.hid (fun W => l1Num_is d.toNat (by omega) W)
  rw [show ((d.toNat : Nat) : Int) = d from by omega] at HN
  have HD := Lib.hid (show Lib.itoa d = Lib.decDigits d.toNat by unfold Lib.itoa; rw [if_neg (by omega)])
  have hc1 : ∀ W, (binOp .add 9 (str (Lib.itoa n)) (.string ⟨#[47]⟩)).run Tryz.prog W = .ok (str (Lib.itoa n ++ [47])) W := fun W => run_cat W (Lib.itoa n) [47] (by omega) (by simp)
  have hc2 : ∀ W, (binOp .add 9 (str (Lib.itoa n ++ [47])) (str (Lib.decDigits d.toNat))).run Tryz.prog W = .ok (str (ratL n d)) W := fun W => by
    have := run_cat W (Lib.itoa n ++ [47]) (Lib.itoa d) (by simp; omega) (by omega)
    rw [HD.out] at this
    exact this.trans (by unfold ratL; rw [HD.out])
  clear h b
  go_enter Tryz.func64, Tryz.ntmps64
  go_wp2_with fail
  go_name_world W0 hW
  have e0 : W0.cell? ⟨w.heap.size, 0, none⟩ = some (.int .i64 n) := by rw [← hW]; simp [go_sem]
  have e1 : W0.cell? ⟨w.heap.size, 1, none⟩ = some (.int .i64 d) := by rw [← hW]; simp [go_sem]
  have hB0 : Below w.heap.size w W0 := by rw [← hW]; go_grown
  clear hW
  refine wp_region_below (by kernel_rfl) (by kernel_rfl) ?_
  iterate 9 (first
    | (refine stepV (v := ?_) rfl (fun W hW => ?_) ?_
       rotate_left
       focus
         have qc0 := cellB hW.out e0
         have qc1 := cellB hW.out e1
         go_simp
         try with_reducible rfl
         done
       simp only [Act.put, List.setIfInBounds_toArray, List.set_cons_zero, List.set_cons_succ])
    | (refine stepC rfl (fun W hW => ?_) (fun W hW => callB hW (HI.out W)) ?_
       focus
         go_simp
         try with_reducible rfl
         done
       simp only [Act.put, List.setIfInBounds_toArray, List.set_cons_zero, List.set_cons_succ])
    | (refine stepC rfl (fun W hW => ?_) (fun W hW => callB hW (HN.out W)) ?_
       focus
         go_simp
         try with_reducible rfl
         done
       simp only [Act.put, List.setIfInBounds_toArray, List.set_cons_zero, List.set_cons_succ]))
  refine stepN ?_
  intro w2 hw2
  have hB := nextX hB0 hw2.out
  go_wp2_with fail
  go_ret
  exact ⟨rfl, hB⟩

set_option maxRecDepth 100000 in
set_option maxHeartbeats 1600000 in
theorem ratText_is (n d : Int) (h : okQ n d = true) (w : World) (ht : Tab w) :
    Calls Tryz.prog 62 #[.agg #[.int .i64 n, .int .i64 d]] w fun e w' => e = .returned (str (ratL n d)) ∧ Below w.heap.size w w' := by
  have b := okQ_bd h
  have h1 := itoa_len (n := n) (by omega) (by omega)
  have h2 := itoa_len (n := d) (by omega) (by omega)
  have bn : -9223372036854775808 ≤ n ∧ n ≤ 9223372036854775807 := by omega
  have bd : -9223372036854775808 ≤ d ∧ d ≤ 9223372036854775807 := by omega
  have hc1 : ∀ W, (binOp .add 9 (str (Lib.itoa n)) (.string ⟨#[47]⟩)).run Tryz.prog W = .ok (str (Lib.itoa n ++ [47])) W := fun W => run_cat W (Lib.itoa n) [47] (by omega) (by simp)
  have hc2 : ∀ W, (binOp .add 9 (str (Lib.itoa n ++ [47])) (str (Lib.itoa d))).run Tryz.prog W = .ok (str (ratL n d)) W := fun W => by
    have := run_cat W (Lib.itoa n ++ [47]) (Lib.itoa d) (by simp; omega) (by omega)
    skip
    exact this.trans (by unfold ratL; rfl)
  clear h b
  go_enter Tryz.func62, Tryz.ntmps62
  go_wp2_with fail
  go_name_world W0 hW
  have e0 : W0.cell? ⟨w.heap.size, 0, none⟩ = some (.int .i64 n) := by rw [← hW]; simp [go_sem]
  have e1 : W0.cell? ⟨w.heap.size, 1, none⟩ = some (.int .i64 d) := by rw [← hW]; simp [go_sem]
  have hB0 : Below w.heap.size w W0 := by rw [← hW]; go_grown
  have HT := Lib.hid (ht.keep hB0)
  clear hW
  refine wp_region_below (by kernel_rfl) (by kernel_rfl) ?_
  iterate 9 (first
    | (refine stepV (v := ?_) rfl (fun W hW => ?_) ?_
       rotate_left
       focus
         have qc0 := cellB hW.out e0
         have qc1 := cellB hW.out e1
         go_simp
         try with_reducible rfl
         done
       simp only [Act.put, List.setIfInBounds_toArray, List.set_cons_zero, List.set_cons_succ])
    | (refine stepC rfl (fun W hW => ?_) (fun W hW => callB hW (itoa_is n bn.1 bn.2 W (HT.out.keep hW.out))) ?_
       focus
         go_simp
         try with_reducible rfl
         done
       simp only [Act.put, List.setIfInBounds_toArray, List.set_cons_zero, List.set_cons_succ])
    | (refine stepC rfl (fun W hW => ?_) (fun W hW => callB hW (itoa_is d bd.1 bd.2 W (HT.out.keep hW.out))) ?_
       focus
         go_simp
         try with_reducible rfl
         done
       simp only [Act.put, List.setIfInBounds_toArray, List.set_cons_zero, List.set_cons_succ]))
  refine stepN ?_
  intro w2 hw2
  have hB := nextX hB0 hw2.out
  go_wp2_with fail
  go_ret
  exact ⟨rfl, hB⟩

/-- What a call that gives a text and a flag leaves. -/
def RetSB (w : World) (l : List UInt8) (t : Bool) (e : Ending) (w' : World) : Prop := e = .returned (.tuple #[str l, .bool t]) ∧ Below w.heap.size w w'

end Go.Proofs.YtkeajfgcjmhmiaaGreatDoor
