/- 'areRats' of the program: whether all fractions of a list are valid. -/
import Derived.Test.YtkdhhopfefhdjaaRat3
import Derived.Test.YtkdhhopfefhdjaaData
namespace Go.Proofs.Ytkdhhopfefhdjaa
open Go.RowKit

def AllQ (qs : List Q) (k : Nat) : Prop := ∀ i q, i < k → qs[i]? = some q → okQ q.1 q.2 = true
theorem AllQ.whole {qs : List Q} {t : Bool} (h : AllQ qs qs.length) (ht : qs.all (fun q => okQ q.1 q.2) = t) : t = true := by
  rw [← ht, List.all_eq_true]
  intro q hq
  obtain ⟨i, hi, rfl⟩ := List.getElem_of_mem hq
  exact h i _ hi (List.getElem?_eq_getElem hi)
theorem AllQ.more {qs : List Q} {k : Nat} {n d : Int} (h : AllQ qs k) (hk : k < qs.length) (hq : qs[k] = (n, d)) (ho : okQ n d = true) : AllQ qs (k + 1) := by
  intro i q hi hiq
  by_cases e : i = k
  · subst e
    rw [List.getElem?_eq_getElem hk, hq] at hiq
    cases hiq
    exact ho
  · exact h i q (by omega) hiq
theorem AllQ.fails {qs : List Q} {t : Bool} {k : Nat} {n d : Int} (hk : k < qs.length) (hq : qs[k] = (n, d)) (ho : okQ n d = false) (ht : qs.all (fun q => okQ q.1 q.2) = t) : t = false := by
  rw [← ht, List.all_eq_false]
  exact ⟨qs[k], List.getElem_mem hk, by rw [hq]; simp [ho]⟩
def RelA (qs : List Q) (w : World) (i : Value) (wr : World) : Prop := ∃ k : Nat, k ≤ qs.length ∧ i = .int .i64 k ∧ AllQ qs k ∧ Below w.heap.size w wr

set_option maxHeartbeats 400000 in
theorem areRats_any (qs : List Q) (v : Value) (t : Bool) (w : World) (hv : RdQ w v qs) (ht : qs.all (fun q => okQ q.1 q.2) = t) :
    Calls Try.prog 176 #[v] w fun e w' => e = .returned (.bool t) ∧ Below w.heap.size w w' := by
  obtain ⟨A, c, rfl, hl, hm, hcell⟩ := hv
  unfold maxLen at hm
  have HC := Lib.hid hcell
  have HT := Lib.hid ht
  clear hcell ht
  go_enter Try.func176, Try.ntmps176
  go_wp2_with fail
  go_loopw [7] (fun i wr => RelA qs w i wr) (fun i _ => qs.length - (intOf i).toNat)
  case atStart => exact ⟨0, Nat.zero_le _, rfl, (fun i q h => by omega), Below.refl _ _⟩
  case round =>
    obtain ⟨k, hk, rfl, hall, hb⟩ := hrel
    have HA := Lib.hid hall
    clear hall
    by_cases hlt : k < qs.length
    · obtain ⟨g, o, rfl, hg, hc⟩ := HC.out (by intro h; rw [h] at hlt; simp at hlt)
      have hq := hc k qs[k] (List.getElem?_eq_getElem hlt)
      generalize hqk : qs[k] = q at *
      obtain ⟨n, d⟩ := q
      obtain ⟨c0, c1⟩ := hq
      rw [← hb.cell (p := ⟨g, _, none⟩) hg] at c0 c1
      clear hc HC
      have HQ := Lib.hid hqk
      clear hqk
      rcases hok : okQ n d with _ | _
      all_goals
        have HO := Lib.hid hok
        clear hok
        go_wp2_with fail
        refine (isRat_is n d _ HO.out _).mono ?_
        rintro e w1 ⟨rfl, hb1⟩
        have hb2 : Below w.heap.size w w1 := (hb.alloc hb.size _).trans (hb1.mono (by have := hb.size; simp; omega))
        go_wp2_with fail
      · go_ret
        exact ⟨ret_bool (AllQ.fails hlt HQ.out HO.out HT.out).symm, hb2⟩
      · go_roundw
        case rel => exact ⟨k + 1, by omega, by go_num, AllQ.more HA.out hlt HQ.out HO.out, hb2⟩
        case measure => simp [intOf]; omega
    · obtain rfl : k = qs.length := by omega
      go_wp2_with fail
      go_ret
      exact ⟨ret_bool (AllQ.whole HA.out HT.out).symm, hb⟩

/-- Two fractions in a block of their own. -/
theorem RdQ.two {w : World} {g : Nat} {n1 d1 n2 d2 : Int} (hg : g < w.heap.size) (c0 : w.cell? ⟨g, 0, none⟩ = some (.int .i64 n1)) (c1 : w.cell? ⟨g, 1, none⟩ = some (.int .i64 d1)) (c2 : w.cell? ⟨g, 2, none⟩ = some (.int .i64 n2)) (c3 : w.cell? ⟨g, 3, none⟩ = some (.int .i64 d2)) :
    RdQ w (.slice (some ⟨g, 0, none⟩) 2 2) [(n1, d1), (n2, d2)] := by
  refine ⟨_, 2, rfl, by simp, by simp [maxLen], fun _ => ⟨g, 0, rfl, hg, fun i q hq => ?_⟩⟩
  match i, hq with
  | 0, hq => simp at hq; subst hq; exact ⟨by simpa using c0, by simpa using c1⟩
  | 1, hq => simp at hq; subst hq; exact ⟨by simpa using c2, by simpa using c3⟩

end Go.Proofs.Ytkdhhopfefhdjaa
