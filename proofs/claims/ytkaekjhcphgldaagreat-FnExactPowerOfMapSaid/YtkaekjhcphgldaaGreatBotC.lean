/- IsBelow of both. -/
import Derived.Test.YtkaekjhcphgldaaGreatBotB
import Derived.Test.YtkaekjhcphgldaaGreatSame2
namespace Go.Proofs.YtkaekjhcphgldaaGreat
open Go.RowKit

def belB (f g : List Pt) (x : Q) : Bool := !lessQ (valQ g x).1.1 (valQ g x).1.2 (valQ f x).1.1 (valQ f x).1.2
def belTo (f g : List Pt) (k : Nat) : Bool := ((bothQ f g).take k).all (belB f g)
def fineTo2 (f g : List Pt) (k : Nat) : Bool := ((bothQ f g).take k).all (fineV f g)
theorem belTo_next {f g : List Pt} {k : Nat} {x : Q} (h : (bothQ f g)[k]? = some x) : belTo f g (k + 1) = (belTo f g k && belB f g x) := by
  unfold belTo; rw [take_snoc_get h, List.all_append]; simp
theorem fineTo2_next {f g : List Pt} {k : Nat} {x : Q} (h : (bothQ f g)[k]? = some x) : fineTo2 f g (k + 1) = (fineTo2 f g k && fineV f g x) := by
  unfold fineTo2; rw [take_snoc_get h, List.all_append]; simp
theorem fineTo2_all (f g : List Pt) : fineTo2 f g (bothQ f g).length = allFine f g := by unfold fineTo2 allFine; rw [List.take_length]
theorem belTo_not {f g : List Pt} {k : Nat} (h : belTo f g k = false) : (bothQ f g).all (belB f g) = false := by
  unfold belTo at h
  rw [List.all_eq_false] at h ⊢
  obtain ⟨x, hx, h2⟩ := h
  exact ⟨x, List.mem_of_mem_take hx, h2⟩
/-- What IsBelow gives. -/
def belowQ (f g : List Pt) : Bool × Bool := if (okMap f && okMap g) = true then (if allFine f g = true then ((bothQ f g).all (belB f g), true) else (false, false)) else (false, false)
theorem bothQ_pos {f g : List Pt} (h : okMap f = true) : 0 < (bothQ f g).length := by
  have hl := okMap_len h
  obtain ⟨p, hp⟩ : ∃ p, f[0]? = some p := ⟨_, List.getElem?_eq_getElem (by omega)⟩
  have : p.1 ∈ bothQ f g := by
    unfold bothQ
    rw [setQ_mem, List.mem_append]
    exact Or.inl (List.mem_map.2 ⟨p, List.mem_of_getElem? hp, rfl⟩)
  exact List.length_pos_of_mem this


end Go.Proofs.YtkaekjhcphgldaaGreat
