/- Plain: sums and differences of fractions undo each other, so do products and quotients, and the order is that of differences. -/
import Derived.Test.YtjlgnmbgopocaaaVals
namespace Go.Proofs.Ytjlgnmbgopocaaa
open Go.RowKit

def cmpR (a b c d : Int) : Int × Bool := if (okQ a b && okQ c d) = true then (cmpQ a b c d, true) else (0, false)
theorem ok_of_add {a b c d x y : Int} (h : addQ a b c d = (x, y, true)) : okQ a b = true ∧ okQ c d = true := by
  unfold addQ at h
  split at h
  · rename_i hk; simpa using hk
  · simp at h
theorem ok_of_sub {a b c d x y : Int} (h : subQ a b c d = (x, y, true)) : okQ a b = true ∧ okQ c d = true := by
  unfold subQ at h
  split at h
  · rename_i hk; simpa using hk
  · simp at h
theorem ok_of_mid {a b c d x y : Int} (h : midQ a b c d = (x, y, true)) : okQ a b = true ∧ okQ c d = true := by
  unfold midQ at h
  split at h
  · rename_i hk; simpa using hk
  · simp at h
theorem ok_of_div {a b c d x y : Int} (h : divQ a b c d = (x, y, true)) : (okQ a b = true ∧ okQ c d = true) ∧ c ≠ 0 := by
  unfold divQ at h
  split at h
  · rename_i hk; simpa using hk
  · simp at h
theorem sum_back {a b c d x y : Int} (h : addQ a b c d = (x, y, true)) : subQ x y c d = (a, b, true) ∧ addQ c d a b = (x, y, true) ∧ okQ x y = true := by
  obtain ⟨h1, h2⟩ := ok_of_add h
  rw [addQ_fit h1 h2] at h
  obtain ⟨e, ok⟩ := fitR_yes h
  refine ⟨?_, ?_, ok⟩
  · rw [subQ_fit ok h2, e]
    refine fitR_of h1 ?_
    grind
  · rw [addQ_fit h2 h1, ← h]
    congr 1
    grind
theorem quo_back {a b c d x y : Int} (h : divQ a b c d = (x, y, true)) : mulQ x y c d = (a, b, true) := by
  obtain ⟨⟨h1, h2⟩, h0⟩ := ok_of_div h
  have hc : toR (c, d) ≠ 0 := fun e => h0 ((num_zero h2).1 e)
  rw [divQ_fit h1 h2 hc] at h
  obtain ⟨e, ok⟩ := fitR_yes h
  rw [mulQ_fit ok h2, e]
  refine fitR_of h1 ?_
  exact (Rat.div_mul_cancel hc).symm
theorem num_pos {n d : Int} (h : okQ n d = true) : 0 < n ↔ 0 < toR (n, d) := by
  have := okQ_bd h
  have e := lessQ_iff (n1 := 0) (d1 := 1) (n2 := n) (d2 := d) (by omega) this.1
  rw [toR_zero] at e
  rw [← e]
  unfold lessQ
  simp
theorem diff_sign {a b c d x y : Int} (h : subQ a b c d = (x, y, true)) : (0 < x ↔ 0 < cmpQ a b c d) ∧ (x = 0 ↔ cmpQ a b c d = 0) := by
  obtain ⟨h1, h2⟩ := ok_of_sub h
  rw [subQ_fit h1 h2] at h
  obtain ⟨e, ok⟩ := fitR_yes h
  have b1 := okQ_bd h1
  have b2 := okQ_bd h2
  constructor
  · rw [num_pos ok, e, cmpQ_gt b1.1 b2.1]
    constructor <;> intro h <;> grind
  · rw [← num_zero ok, e, cmpQ_eq b1.1 b2.1]
    constructor <;> intro h <;> grind
theorem cmpR_swap {a b c d o : Int} (h : cmpR a b c d = (o, true)) : cmpR c d a b = (-o, true) := by
  unfold cmpR at h ⊢
  split at h
  · rename_i hk
    rw [if_pos (by rw [Bool.and_comm]; exact hk), cmpQ_swap a b c d]
    obtain ⟨rfl, -⟩ := Prod.mk.inj h
    rfl
  · simp at h
theorem cmpR_of {a b c d : Int} (h1 : okQ a b = true) (h2 : okQ c d = true) : cmpR a b c d = (cmpQ a b c d, true) := by
  unfold cmpR; rw [if_pos (by rw [h1, h2]; rfl)]
theorem mid_between {a b c d x y : Int} (h : midQ a b c d = (x, y, true)) : (okQ x y = true ∧ okQ a b = true ∧ okQ c d = true) ∧ (lessQ x y a b && lessQ x y c d) = false ∧ (lessQ a b x y && lessQ c d x y) = false := by
  obtain ⟨h1, h2⟩ := ok_of_mid h
  rw [midQ_fit h1 h2] at h
  obtain ⟨e, ok⟩ := fitR_yes h
  have b1 := okQ_bd h1
  have b2 := okQ_bd h2
  have b3 := okQ_bd ok
  refine ⟨⟨ok, h1, h2⟩, ?_, ?_⟩
  · rw [Bool.eq_false_iff]
    intro hh
    rw [Bool.and_eq_true, lessQ_iff b3.1 b1.1, lessQ_iff b3.1 b2.1, e] at hh
    grind
  · rw [Bool.eq_false_iff]
    intro hh
    rw [Bool.and_eq_true, lessQ_iff b1.1 b3.1, lessQ_iff b2.1 b3.1, e] at hh
    grind

end Go.Proofs.Ytjlgnmbgopocaaa
