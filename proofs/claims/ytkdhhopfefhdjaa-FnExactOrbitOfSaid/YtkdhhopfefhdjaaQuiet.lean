/- A statement that draws its order, whose calls make memory but change nothing that was there: one walk in the order of the text. -/
import Derived.Test.YtkdhhopfefhdjaaBase
import Derived.Deep.Quiet
namespace Go.Proofs.Ytkdhhopfefhdjaa
open Go.RowKit

/-- The worlds in which nothing has turned of what was there in w. -/
def Bel (w : World) (w' : World) : Prop := Below w.heap.size w w'
theorem Bel.out {w w' : World} (h : Bel w w') : Below w.heap.size w w' := h
theorem Bel.next {w w' w'' : World} (h : Bel w w') (hb : Below w'.heap.size w' w'') : Bel w w'' := nextW h hb

/-- The walk of a drawn statement in the order of its text, shut against unfolding. -/
structure WQ (P : Program) (ops : Array Oper) (C : World → Prop) (Q : Act → Prop) (l : List Oper) (a : Act) : Prop where
  out : wpQuiet P ops C Q l a

section
variable {P : Program} {ops : Array Oper} {C : World → Prop} {Q : Act → Prop} {o : Oper} {rest : List Oper} {a : Act}
theorem stepN (h : Q a) : WQ P ops C Q [] a := ⟨h⟩
theorem stepS (hw : Region.wanted o (yielded ops a.tmps) = false) (k : WQ P ops C Q rest (a.put o.dst undef)) : WQ P ops C Q (o :: rest) a :=
  ⟨by simp only [wpQuiet, hw]; exact k.out⟩
theorem stepV {v : Value} (hw : Region.wanted o (yielded ops a.tmps) = true) (h : ∀ W, C W → (execOp a.eval o).run P W = .ok (.value v) W) (k : WQ P ops C Q rest (a.put o.dst v)) : WQ P ops C Q (o :: rest) a :=
  ⟨by simp only [wpQuiet, hw, if_true]; exact ⟨v, fun W hW => by unfold Oper.quietAt; rw [h W hW]; exact ⟨rfl, rfl⟩, k.out⟩⟩
theorem stepC {v : Value} {f : FuncId} {args : Array Value} (hw : Region.wanted o (yielded ops a.tmps) = true) (h : ∀ W, C W → (execOp a.eval o).run P W = .ok (.enter f args) W)
    (hc : ∀ W, C W → Calls P f args W fun e W' => e = .returned v ∧ C W') (k : WQ P ops C Q rest (a.put o.dst v)) : WQ P ops C Q (o :: rest) a :=
  ⟨by simp only [wpQuiet, hw, if_true]; exact ⟨v, fun W hW => by unfold Oper.quietAt; rw [h W hW]; exact ⟨rfl, hc W hW⟩, k.out⟩⟩
end

theorem callB {P : Program} {f : FuncId} {args : Array Value} {w W : World} {v : Value} (hW : Bel w W) (h : Calls P f args W fun e W' => e = .returned v ∧ Below W.heap.size W W') : Calls P f args W fun e W' => e = .returned v ∧ Bel w W' :=
  h.mono fun _ _ ⟨he, hb⟩ => ⟨he, hW.next hb⟩
theorem callE {P : Program} {f : FuncId} {args : Array Value} {w W : World} {v : Value} (hW : Bel w W) (h : Calls P f args W fun e W' => e = .returned v ∧ W' = W) : Calls P f args W fun e W' => e = .returned v ∧ Bel w W' :=
  h.mono fun _ _ ⟨he, hb⟩ => ⟨he, by rw [hb]; exact hW⟩
theorem callF {P : Program} {f : FuncId} {args : Array Value} {w W : World} {v : Value} (hW : Bel w W) (h : Calls P f args W fun e W' => e = .returned v ∧ W = W') : Calls P f args W fun e W' => e = .returned v ∧ Bel w W' :=
  h.mono fun _ _ ⟨he, hb⟩ => ⟨he, by rw [← hb]; exact hW⟩

theorem wp_region_below {P : Program} {id : Nat} {K : Exit → Act → World → Prop} {a : Act} {w : World} {l : List Oper} (hm : P.follows .mixedOrders = true) (hB : Region.lexB .any l.toArray = true)
    (h : WQ P l.toArray (Bel w) (fun a' => ∀ w', Bel w w' → K .normal a' w') l a) : (Code.region id l.toArray true).wp P K a w :=
  wp_region_quiet (C := Bel w) hm hB ⟨rfl, rfl, rfl, Nat.le_refl _, fun _ _ => rfl⟩ (by simpa using h.out)

end Go.Proofs.Ytkdhhopfefhdjaa
