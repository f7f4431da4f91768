/- Appending one fraction or one point, or a whole list, to a row of the call's own. -/
import Derived.Test.YtkdhhopfefhdjaaRow
namespace Go.Proofs.Ytkdhhopfefhdjaa
open Go.RowKit

theorem Try.infoQ : (Try.prog.info? 34).map (fun i => (i.zero, i.size, i.bytes)) = some (some (.agg #[.int .i64 0, .int .i64 0]), 2, 16) := by kernel_rfl
theorem append_q {ops : Array Oper} {rest : List Oper} {o : Oper} {a : Act} {K : Exit → Act → World → Prop} (w : World) (hgd : o.guard = none) (s x : Operand)
    (ho : o.op = .call { callee := .builtin .append, args := #[s, x], argTypes := #[43, 43] })
    (base : Nat) (v : Value) (qs : List Q) (hs : a.eval s = v) (hown : OwQ base 34 w v qs)
    (g off c : Nat) (ns : List Q) (hx : a.eval x = .slice (some ⟨g, off, none⟩) ns.length c) (hc : ∀ i q, ns[i]? = some q → w.cell? ⟨g, off + i * 2, none⟩ = some (.int .i64 q.1) ∧ w.cell? ⟨g, off + i * 2 + 1, none⟩ = some (.int .i64 q.2))
    (hlen : qs.length + ns.length ≤ 1000000) (hbase : base ≤ w.heap.size)
    (h : ∀ v' w', OwQ base 34 w' v' (qs ++ ns) → Below base w w' → wpList Try.prog ops K rest (a.put o.dst v') w') : wpList Try.prog ops K (o :: rest) a w := by
  obtain ⟨i, hi, hz, hsz, hb⟩ := info_parts Try.infoQ
  have hcell : ∀ j u, (rowQ ns)[j]? = some u → w.cell? ((⟨g, off, none⟩ : Addr).add j) = some u := by
    intro j u hj
    have hjl : j < ns.length * 2 := by rw [← rowQ_len]; exact (List.getElem?_eq_some_iff.1 hj).1
    have hi2 : j / 2 < ns.length := by omega
    obtain ⟨b0, b1⟩ := rowQ_get ns (j / 2) _ (List.getElem?_eq_getElem hi2)
    obtain ⟨d0, d1⟩ := hc (j / 2) _ (List.getElem?_eq_getElem hi2)
    have hadd : (⟨g, off, none⟩ : Addr).add j = ⟨g, off + j, none⟩ := by unfold Addr.add; split <;> simp_all
    rw [hadd]
    rcases Nat.mod_two_eq_zero_or_one j with e | e
    · have e2 : j = j / 2 * 2 := by omega
      rw [e2] at hj ⊢
      rw [b0] at hj; cases hj; exact d0
    · have e2 : j = j / 2 * 2 + 1 := by omega
      rw [e2] at hj ⊢
      rw [b1] at hj; cases hj; exact d1
  have hone : ∀ u ∈ rowQ ns, u.oneCell' = true := by
    intro u hu
    simp only [rowQ, List.mem_flatMap] at hu
    obtain ⟨q, _, hq⟩ := hu
    simp at hq
    rcases hq with rfl | rfl <;> rfl
  refine wpList_append_own w hgd s x 43 ho base 34 i _ 2 16 Try.underlying43 hi hz hsz hb rfl (by decide) v qs.length (rowQ qs) hs hown ⟨g, off, none⟩ ns.length c (rowQ ns) hx (rowQ_len _) hcell hone (by unfold maxLen; omega) (by omega) hbase ?_
  intro v' w' h1 h2 _
  refine h v' w' ?_ ?_
  · unfold OwQ; rw [List.length_append, rowQ_app]; exact h1
  · exact (Below.refl _ _).grown h2 hbase (fun k hk => (hown.lt k hk).1)

theorem append_q1 {ops : Array Oper} {rest : List Oper} {o : Oper} {a : Act} {K : Exit → Act → World → Prop} (w : World) (hgd : o.guard = none) (s x : Operand)
    (ho : o.op = .call { callee := .builtin .append, args := #[s, x], argTypes := #[43, 43] })
    (base : Nat) (v : Value) (qs : List Q) (hs : a.eval s = v) (hown : OwQ base 34 w v qs)
    (g c : Nat) (n d : Int) (hx : a.eval x = .slice (some ⟨g, 0, none⟩) 1 c) (c0 : w.cell? ⟨g, 0, none⟩ = some (.int .i64 n)) (c1 : w.cell? ⟨g, 1, none⟩ = some (.int .i64 d))
    (hlen : qs.length ≤ 900000) (hbase : base ≤ w.heap.size)
    (h : ∀ v' w', OwQ base 34 w' v' (qs ++ [(n, d)]) → Below base w w' → wpList Try.prog ops K rest (a.put o.dst v') w') : wpList Try.prog ops K (o :: rest) a w :=
  append_q w hgd s x ho base v qs hs hown g 0 c [(n, d)] hx (fun i q hq => by
    cases i with
    | zero => simp at hq; subst hq; exact ⟨by simpa using c0, by simpa using c1⟩
    | succ i => simp at hq) (by simp; omega) hbase h

theorem Try.infoPa : (Try.prog.info? 70).map (fun i => (i.zero, i.size, i.bytes)) = some (some (.agg #[.int .i64 0, .int .i64 0, .int .i64 0, .int .i64 0]), 4, 32) := by kernel_rfl
theorem append_p1 {ops : Array Oper} {rest : List Oper} {o : Oper} {a : Act} {K : Exit → Act → World → Prop} (w : World) (hgd : o.guard = none) (s x : Operand)
    (ho : o.op = .call { callee := .builtin .append, args := #[s, x], argTypes := #[25, 25] })
    (base : Nat) (v : Value) (ps : List Pt) (hs : a.eval s = v) (hown : OwP base 70 w v ps)
    (g c : Nat) (x1 x2 y1 y2 : Int) (hx : a.eval x = .slice (some ⟨g, 0, none⟩) 1 c) (c0 : w.cell? ⟨g, 0, none⟩ = some (.int .i64 x1)) (c1 : w.cell? ⟨g, 1, none⟩ = some (.int .i64 x2)) (c2 : w.cell? ⟨g, 2, none⟩ = some (.int .i64 y1)) (c3 : w.cell? ⟨g, 3, none⟩ = some (.int .i64 y2))
    (hlen : ps.length ≤ 900000) (hbase : base ≤ w.heap.size)
    (h : ∀ v' w', OwP base 70 w' v' (ps ++ [((x1, x2), y1, y2)]) → Below base w w' → wpList Try.prog ops K rest (a.put o.dst v') w') : wpList Try.prog ops K (o :: rest) a w := by
  obtain ⟨i, hi, hz, hsz, hb⟩ := info_parts Try.infoPa
  have hcell : ∀ j u, (rowP [((x1, x2), y1, y2)])[j]? = some u → w.cell? ((⟨g, 0, none⟩ : Addr).add j) = some u := by
    intro j u hj
    have hadd : (⟨g, 0, none⟩ : Addr).add j = ⟨g, j, none⟩ := by unfold Addr.add; split <;> simp_all
    rw [hadd]
    match j, hj with
    | 0, hj => simp [rowP] at hj; subst hj; exact c0
    | 1, hj => simp [rowP] at hj; subst hj; exact c1
    | 2, hj => simp [rowP] at hj; subst hj; exact c2
    | 3, hj => simp [rowP] at hj; subst hj; exact c3
    | j + 4, hj => simp [rowP] at hj
  have hone : ∀ u ∈ rowP [((x1, x2), y1, y2)], u.oneCell' = true := by
    intro u hu
    simp [rowP] at hu
    rcases hu with rfl | rfl | rfl | rfl <;> rfl
  refine wpList_append_own w hgd s x 25 ho base 70 i _ 4 32 Try.underlying25 hi hz hsz hb rfl (by decide) v ps.length (rowP ps) hs hown ⟨g, 0, none⟩ 1 c (rowP [((x1, x2), y1, y2)]) hx rfl hcell hone (by unfold maxLen; omega) (by omega) hbase ?_
  intro v' w' h1 h2 _
  refine h v' w' ?_ ?_
  · unfold OwP; rw [List.length_append, rowP_app]; exact h1
  · exact (Below.refl _ _).grown h2 hbase (fun k hk => (hown.lt k hk).1)

end Go.Proofs.Ytkdhhopfefhdjaa
