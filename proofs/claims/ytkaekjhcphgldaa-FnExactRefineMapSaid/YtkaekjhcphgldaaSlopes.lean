/- The slopes of all pieces: slopes, imSlopes, SlopesOf of both. -/
import Derived.Test.YtkaekjhcphgldaaOrbs
import Derived.Deep.AppendLies
namespace Go.Proofs.Ytkaekjhcphgldaa
open Go.RowKit

/-- Points with coordinates, rising. -/
structure RiseC (ps : List Pt) : Prop where
  coord : ∀ (i : Nat) (p : Pt), ps[i]? = some p → coordQ p.1.1 p.1.2 = true ∧ coordQ p.2.1 p.2.2 = true
  rise : ∀ (i : Nat) (p q : Pt), ps[i]? = some p → ps[i + 1]? = some q → lessQ p.1.1 p.1.2 q.1.1 q.1.2 = true
theorem okMap_riseC {ps : List Pt} (h : okMap ps = true) : RiseC ps := ⟨fun _ _ => okMap_coord h, fun _ _ _ => okMap_rising h⟩

/-- The slopes of all pieces. -/
def slopesQ (ps : List Pt) : List Q := List.zipWith slopeQ ps ps.tail
theorem slopesQ_len (ps : List Pt) : (slopesQ ps).length = ps.length - 1 := by
  unfold slopesQ; rw [List.length_zipWith, List.length_tail]; omega
theorem slopesQ_get {ps : List Pt} {i : Nat} {p q : Pt} (hp : ps[i]? = some p) (hq : ps[i + 1]? = some q) : (slopesQ ps)[i]? = some (slopeQ p q) := by
  unfold slopesQ
  rw [List.getElem?_zipWith, List.getElem?_tail, hp, hq]
theorem take_snoc_get {α : Type} {l : List α} {k : Nat} {x : α} (h : l[k]? = some x) : l.take (k + 1) = l.take k ++ [x] := by
  obtain ⟨h1, h2⟩ := List.getElem?_eq_some_iff.1 h
  rw [List.take_succ_eq_append_getElem h1, h2]

/-- Facts on old blocks, carried over whatever leaves the old blocks alone. -/
theorem Facts.keepB {B : Nat} : ∀ {L : List (Nat × Nat × Value)} {W w1 : World}, Facts L W → Below B W w1 → (∀ x ∈ L, x.1 < B) → Facts L w1
  | [], _, _, _, _, _ => trivial
  | x :: [], _, _, h, hb, hn => (hb.cell (p := ⟨x.1, x.2.1, none⟩) (hn x (by simp))).trans h
  | x :: y :: r, _, _, h, hb, hn => ⟨(hb.cell (p := ⟨x.1, x.2.1, none⟩) (hn x (by simp))).trans h.1, Facts.keepB h.2 hb (fun z hz => hn z (List.mem_cons_of_mem _ hz))⟩

/-- Appending one fraction at a step of a statement that draws its order. -/
theorem step_append_q {ops : Array Oper} {o : Oper} {a : Act} {K : Act → World → Prop} {Q' : Exit → Act → World → Prop} {E : Prop} (w : World) (hgd : o.guard = none) (s x : Operand)
    (ho : o.op = .call { callee := .builtin .append, args := #[s, x], argTypes := #[24, 24] })
    (base : Nat) (v : Value) (qs : List Q) (hs : a.eval s = v) (hown : OwQ base 37 w v qs)
    (g c : Nat) (n d : Int) (hx : a.eval x = .slice (some ⟨g, 0, none⟩) 1 c) (c0 : w.cell? ⟨g, 0, none⟩ = some (.int .i64 n)) (c1 : w.cell? ⟨g, 1, none⟩ = some (.int .i64 d))
    (hlen : qs.length ≤ 900000) (hbase : base ≤ w.heap.size)
    (h : ∀ v' w', OwQ base 37 w' v' (qs ++ [(n, d)]) → Below base w w' → K (a.put o.dst v') w') :
    if Region.wanted o (yielded ops a.tmps) = true then Oper.wp Try.prog o a w K Q' else E := by
  obtain ⟨i, hi, hz, hsz, hb⟩ := info_parts Try.infoQ
  have hcell : ∀ j u, (rowQ [(n, d)])[j]? = some u → w.cell? ((⟨g, 0, none⟩ : Addr).add j) = some u := by
    intro j u hj
    have hadd : (⟨g, 0, none⟩ : Addr).add j = ⟨g, j, none⟩ := by unfold Addr.add; split <;> simp_all
    rw [hadd]
    match j, hj with
    | 0, hj => simp [rowQ] at hj; subst hj; exact c0
    | 1, hj => simp [rowQ] at hj; subst hj; exact c1
    | j + 2, hj => simp [rowQ] at hj
  have hone : ∀ u ∈ rowQ [(n, d)], u.oneCell' = true := by
    intro u hu
    simp [rowQ] at hu
    rcases hu with rfl | rfl <;> rfl
  refine step_append_lies w hgd s x 24 ho base 37 i _ 2 16 Try.underlying24 hi hz hsz hb rfl (by decide) v qs.length (rowQ qs) hs hown ⟨g, 0, none⟩ 1 c (rowQ [(n, d)]) hx rfl hcell hone (by decide) (by unfold maxLen; omega) (by omega) hbase _ rfl ?_
  intro g' cap w' h1 h2 h3 _
  refine h _ w' ?_ ((Below.refl _ _).grown h2 hbase (fun k hk => (hown.lt k hk).1))
  unfold OwQ; rw [List.length_append, rowQ_app]; exact h1

def RelSl (ps : List Pt) (h : Nat) (W0 : World) (out i : Value) (wr : World) : Prop :=
  ∃ k : Nat, k + 1 ≤ ps.length ∧ i = .int .i64 (k + 1) ∧ OwQ h 37 wr out ((slopesQ ps).take k) ∧ Below h W0 wr

/-- What SlopesOf gives. -/
def slopesOfQ (ps : List Pt) : List Q × Bool := if okMap ps = true then (slopesQ ps, true) else ([], false)
theorem slopesOfQ_len {ps : List Pt} {l : List Q} {t : Bool} (h : slopesOfQ ps = (l, t)) : l.length ≤ 1048576 := by
  unfold slopesOfQ at h
  split at h
  · rename_i hh
    obtain ⟨rfl, -⟩ := Prod.mk.inj h
    rw [slopesQ_len]
    have := okMap_len hh
    omega
  · obtain ⟨rfl, -⟩ := Prod.mk.inj h; simp

end Go.Proofs.Ytkaekjhcphgldaa
