/- Decimal numerals: the reference's l1Num and l1Int. -/
import Derived.Test.YtkeajfgcjmhmiaaGreatDoorM4
import Derived.Laws.Concat
import Derived.Laws.IdiomStrings
import Derived.Lib.ItoaLen
namespace Go.Proofs.YtkeajfgcjmhmiaaGreatDoor
open Go.RowKit

/-- A string by its bytes. -/
def str (l : List UInt8) : Value := .string ⟨l.toArray⟩
theorem run_str1 (W : World) (g : Nat) (x : Int) (hx : 0 ≤ x ∧ x ≤ 255) (h : W.cell? ⟨g, 0, none⟩ = some (.int .u8 x)) :
    (convert 22 9 (.slice (some ⟨g, 0, none⟩) 1 1)).run Tryz.prog W = .ok (.string ⟨[UInt8.ofNat x.toNat].toArray⟩) W := by
  refine run_convert_bytes_back (P := Tryz.prog) W 22 9 5 ⟨g, 0, none⟩ 1 [UInt8.ofNat x.toNat] (by kernel_rfl) (by kernel_rfl) (by kernel_rfl) (fun j hj => ?_)
  have hj0 : j = 0 := by simpa using hj
  subst hj0
  have e : (⟨g, 0, none⟩ : Addr).add 0 = ⟨g, 0, none⟩ := rfl
  rw [e, h]
  simp
  omega
theorem run_cat (W : World) (x y : List UInt8) (hx : x.length ≤ 1000000) (hy : y.length ≤ 1000000) :
    (binOp .add 9 (str x) (str y)).run Tryz.prog W = .ok (str (x ++ y)) W := by
  have h := run_string_add_lists (P := Tryz.prog) (w := W) x y (by omega) (by omega)
  simpa [binOp, run_underlying (by kernel_rfl : Tryz.prog.underlying 9 = some .string), str] using h
theorem fresh1 {w w1 : World} {x : Value} {t : TypeId} (hb : Below (w.alloc (.cells #[x] t)).heap.size (w.alloc (.cells #[x] t)) w1) : w1.cell? ⟨w.heap.size, 0, none⟩ = some x := cellB hb (by simp [go_sem])
theorem fresh1D {w w1 : World} {x : Value} {t : TypeId} (hb : Below (w.alloc (.cells #[x] t)).drew.heap.size (w.alloc (.cells #[x] t)).drew w1) : w1.cell? ⟨w.heap.size, 0, none⟩ = some x := cellB hb (by simp [go_sem])
theorem fresh1E {w w1 : World} {x : Value} {t : TypeId} (hb : Below (w.drew.alloc (.cells #[x] t)).heap.size (w.drew.alloc (.cells #[x] t)) w1) : w1.cell? ⟨w.heap.size, 0, none⟩ = some x := cellB hb (by simp [go_sem])
set_option maxRecDepth 100000 in
theorem l1Num_small (n : Nat) (h : n < 10) (w : World) :
    Calls Tryz.prog 91 #[.int .i64 n] w fun e w' => e = .returned (str (Lib.decDigits n)) ∧ Below w.heap.size w w' := by
  have b0 : (n : Int) < 10 := by omega
  have v1 : IntKind.i64.wrap (48 + (n : Int)) = 48 + (n : Int) := IntWalk.i64_in _ (by omega)
  have hcv : ∀ (W : World) (g : Nat), W.cell? ⟨g, 0, none⟩ = some (.int .u8 (48 + (n : Int))) → (convert 22 9 (.slice (some ⟨g, 0, none⟩) 1 1)).run Tryz.prog W = .ok (.string ⟨[UInt8.ofNat (48 + (n : Int)).toNat].toArray⟩) W := fun W g hw => run_str1 W g _ (by omega) hw
  go_enter Tryz.func91, Tryz.ntmps91
  go_wp2_with fail
  go_ret
  refine ⟨?_, by go_grown⟩
  rw [Lib.decDigits_one h]
  rfl
set_option maxRecDepth 100000 in
set_option maxHeartbeats 1600000 in
theorem l1Num_step (n : Nat) (h : ¬ n < 10) (hn : n ≤ 9223372036854775807) (ih : ∀ w, Calls Tryz.prog 91 #[.int .i64 ((n / 10 : Nat) : Int)] w fun e w' => e = .returned (str (Lib.decDigits (n / 10))) ∧ Below w.heap.size w w') (w : World) :
    Calls Tryz.prog 91 #[.int .i64 n] w fun e w' => e = .returned (str (Lib.decDigits n)) ∧ Below w.heap.size w w' := by
  have b0 : ¬ (n : Int) < 10 := by omega
  have b0' : decide ((n : Int) < 10) = false := by simpa using b0
  have b1 : (10 : Int) ≤ n := by omega
  rw [show ((n / 10 : Nat) : Int) = (n : Int) / 10 from by omega] at ih
  have hI := Lib.hid ih
  have v1 : IntKind.i64.wrap ((n : Int) / 10) = (n : Int) / 10 := IntWalk.i64_in _ (by omega)
  have v2 : (n : Int).tmod 10 = (n : Int) % 10 := Int.tmod_eq_emod_of_nonneg (by omega)
  have v3 : IntKind.i64.wrap (48 + (n : Int) % 10) = 48 + (n : Int) % 10 := IntWalk.i64_in _ (by omega)
  have v4 : IntKind.u8.wrap (48 + (n : Int) % 10) = 48 + (n : Int) % 10 := IntWalk.u8_in _ (by omega)
  have hcv : ∀ (W : World) (g : Nat), W.cell? ⟨g, 0, none⟩ = some (.int .u8 (48 + (n : Int) % 10)) → (convert 22 9 (.slice (some ⟨g, 0, none⟩) 1 1)).run Tryz.prog W = .ok (.string ⟨[UInt8.ofNat (48 + (n : Int) % 10).toNat].toArray⟩) W := fun W g hw => run_str1 W g _ (by omega) hw
  have hlen : (Lib.decDigits (n / 10)).length ≤ 20 := by rw [Lib.decDigits_length]; exact Lib.nDigits_le20 _ (by omega)
  have hcat : ∀ W, (binOp .add 9 (str (Lib.decDigits (n / 10))) (.string ⟨#[UInt8.ofNat (48 + (n : Int) % 10).toNat]⟩)).run Tryz.prog W = .ok (str (Lib.decDigits n)) W := fun W => by
    have := run_cat W (Lib.decDigits (n / 10)) [UInt8.ofNat (48 + (n : Int) % 10).toNat] (by omega) (by simp)
    rw [show Lib.decDigits n = Lib.decDigits (n / 10) ++ [UInt8.ofNat (48 + (n : Int) % 10).toNat] by
      conv => lhs; rw [Lib.decDigits, dif_neg h]
      congr 3]
    exact this
  clear ih
  go_enter Tryz.func91, Tryz.ntmps91
  go_wp2_with fail
  go_region_with ((go_at_call 91; (with_reducible refine (hI.out _).mono ?_); rintro e w1 ⟨rfl, hb⟩; have hX : Below w.heap.size w w1 := nextX (by go_grown) hb; (first | (with_reducible have hc1 := fresh1 hb) | (with_reducible have hc1 := fresh1D hb) | (with_reducible have hc1 := fresh1E hb) | skip)))
  all_goals (go_wp2_with fail; go_ret; exact ⟨rfl, nextX hX (by go_grown)⟩)
theorem l1Num_is (n : Nat) (hn : n ≤ 9223372036854775807) (w : World) :
    Calls Tryz.prog 91 #[.int .i64 n] w fun e w' => e = .returned (str (Lib.decDigits n)) ∧ Below w.heap.size w w' := by
  induction n using Nat.strongRecOn generalizing w with
  | _ n ih =>
    by_cases h : n < 10
    · exact l1Num_small n h w
    · exact l1Num_step n h hn (fun W => ih (n / 10) (by omega) (by omega) W) w
set_option maxRecDepth 100000 in
set_option maxHeartbeats 800000 in
theorem l1Int_is (n : Int) (h0 : -9223372036854775807 ≤ n) (h1 : n ≤ 9223372036854775807) (w : World) :
    Calls Tryz.prog 90 #[.int .i64 n] w fun e w' => e = .returned (str (Lib.itoa n)) ∧ Below w.heap.size w w' := by
  by_cases h : n < 0
  · have b0 : decide (n < 0) = true := by simpa using h
    have v1 : IntKind.i64.wrap (-n) = -n := IntWalk.i64_in _ (by omega)
    have HC := Lib.hid (fun W => l1Num_is n.natAbs (by omega) W)
    rw [show ((n.natAbs : Nat) : Int) = -n from by omega] at HC
    have hlen : (Lib.decDigits n.natAbs).length ≤ 20 := by rw [Lib.decDigits_length]; exact Lib.nDigits_le20 _ (by omega)
    have hcat : ∀ W, (binOp .add 9 (.string ⟨#[45]⟩) (str (Lib.decDigits n.natAbs))).run Tryz.prog W = .ok (str (Lib.itoa n)) W := fun W => by
      have := run_cat W [45] (Lib.decDigits n.natAbs) (by simp) (by omega)
      rw [show Lib.itoa n = [45] ++ Lib.decDigits n.natAbs by unfold Lib.itoa; rw [if_pos h]; rfl]
      exact this
    go_enter Tryz.func90, Tryz.ntmps90
    go_wp2_with fail
    refine (HC.out _).mono ?_
    rintro e w1 ⟨rfl, hb⟩
    have hX : Below w.heap.size w w1 := nextX (by go_grown) hb
    go_wp2_with fail
    go_ret
    exact ⟨rfl, hX⟩
  · have b0 : decide (n < 0) = false := by simpa using h
    have b1 : 0 ≤ n := by omega
    have HC := Lib.hid (fun W => l1Num_is n.toNat (by omega) W)
    rw [show ((n.toNat : Nat) : Int) = n from by omega] at HC
    have HI := Lib.hid (show Lib.itoa n = Lib.decDigits n.toNat by unfold Lib.itoa; rw [if_neg h])
    go_enter Tryz.func90, Tryz.ntmps90
    go_wp2_with fail
    refine (HC.out _).mono ?_
    rintro e w1 ⟨rfl, hb⟩
    have hX : Below w.heap.size w w1 := nextX (by go_grown) hb
    go_wp2_with fail
    go_ret
    exact ⟨by rw [HI.out]; rfl, hX⟩

end Go.Proofs.YtkeajfgcjmhmiaaGreatDoor
