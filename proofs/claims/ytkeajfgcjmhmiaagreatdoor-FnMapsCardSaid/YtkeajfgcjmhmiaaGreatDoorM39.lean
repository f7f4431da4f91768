/- A drawn statement in a round of a range over a function: what holds outside a fence holds in the round (no defer in it). -/
import Derived.Test.YtkeajfgcjmhmiaaGreatDoorM7
import Derived.LoopIn
import Derived.LoopNIn
import Derived.OwnWalkIn
import Derived.RangeFuncBound
import Derived.RangeFuncCalls
import Derived.RangeFuncLeaves
import Derived.RangeFuncNested
import Derived.Shelf.Abstract
import Derived.Shelf.RegionOpen
import Derived.TacticsInMore
import Derived.WalkKit
namespace Go.Proofs.YtkeajfgcjmhmiaaGreatDoor
open Go.RowKit Go.Shelf

section
variable {P : Program} {ops : Array Oper} {Q : Exit → Act → World → Prop} {md : Region.Mode}

theorem uponIn_of {o : Oper} {a : Act} {next : Act → World → Prop} (l n : Nat) {r : Result Next} (h : o.upon P a next Q r) : o.uponIn (Fence.wide.inRound l) n P a next Q r := by
  cases r with
  | ok x w' =>
    cases x with
    | value v => exact h
    | skip => exact h
    | defer d => exact h
    | enter f args => exact ⟨fun hd => by simp [Fence.wide] at hd, CallsIn.inRound l (callsIn_wide.2 h)⟩
    | row row args => exact ⟨fun hd => by simp [Fence.wide] at hd, fun c cs _ => by obtain ⟨v, w1, r1, s1⟩ := h c cs; exact ⟨v, w1, r1, stepsIn_wide.2 s1⟩⟩
    | _ => exact h.elim
  | halt x w' => cases x <;> exact h

def noDefer (ops : Array Oper) : Bool := ops.all fun o => match o.op with | .defer _ => false | _ => true
theorem noDefer_spec (h : noDefer ops = true) {i : Nat} {o : Oper} (ho : ops[i]? = some o) : ∀ c, o.op ≠ .defer c := by
  intro c hc
  obtain ⟨hi, rfl⟩ := Array.getElem?_eq_some_iff.1 ho
  have := Array.all_eq_true.1 h i hi
  rw [hc] at this
  exact absurd this (by simp)

theorem wpOpIn_of (hd : noDefer ops = true) (hL : ¬ LetsOut Q) (l n : Nat) {i : Nat} {K K' : Act → World → Prop} {a : Act} {w : World} (hK : ∀ a w, K a w → K' a w) (h : wpOp P ops Q i K a w) : wpOpIn (Fence.wide.inRound l) n P ops Q i K' a w := by
  have h := wpOp_mono hK h
  unfold wpOp at h
  unfold wpOpIn
  cases ho : ops[i]? with
  | none => rw [ho] at h; exact h
  | some o =>
    rw [ho] at h
    simp only at h ⊢
    split
    · rename_i hw
      rw [if_pos hw] at h
      rcases h with h | ⟨-, h⟩
      · refine ⟨fun _ _ => trivial, ?_⟩
        rw [Oper.semAt_eq _ _ _ (noDefer_spec hd ho)]
        exact uponIn_of l n h
      · exact absurd h hL
    · rename_i hw
      rw [if_neg hw] at h
      exact ⟨fun _ _ => trivial, h⟩

theorem wpAnyIn_of (hd : noDefer ops = true) (hL : ¬ LetsOut Q) (l n : Nat) : ∀ (fuel : Nat) (listed : Array Bool) (a : Act) (w : World), wpAny P md ops Q fuel listed a w → wpAnyIn (Fence.wide.inRound l) n P md ops Q fuel listed a w
  | 0, _, _, _, h => h
  | fuel + 1, _, _, _, h => ⟨h.1, fun i hi => wpOpIn_of hd hL l n (fun a' w' h' => wpAnyIn_of hd hL l n fuel _ a' w' h') (h.2 i hi)⟩

theorem wpIn_region_HT {id : Nat} {a : Act} {w : World} {S : World → Prop} (n : Nat) (l m : Nat) (hm : P.follows .mixedOrders = true) (hB : tailB ops n = true) (hd : noDefer ops = true) (hL : ¬ LetsOut Q)
    (h : HT P ops Q S n n (Array.replicate ops.size false) a w.drew) : (Code.region id ops true).wpIn (Fence.wide.inRound l) m P Q a w :=
  wpIn_region_any hm (wpAnyIn_of hd hL l m _ _ _ _ (wpAny_of_HT n hB h))
end

end Go.Proofs.YtkeajfgcjmhmiaaGreatDoor
