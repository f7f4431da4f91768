/- Appending a slice of fractions that may be nil or empty. -/
import Derived.Test.YtkeajfgcjmhmiaaSlopes
namespace Go.Proofs.Ytkeajfgcjmhmiaa
open Go.RowKit

theorem run_append_nil {P : Program} (w : World) (t ty e : TypeId) (i : TypeInfo) (ht : P.underlying t = some (.slice e)) (hi : P.info? e = some i) (A : Option Addr) (n cap c : Nat) (h : n ≤ cap) :
    (Builtin.append_ #[t, t] ty #[.slice A n cap, .slice none 0 c]).run P w = .ok (.slice A n cap) w := by
  cases A <;> simp [Builtin.append_, run_underlying ht, Builtin.lenOf, Builtin.firstCells, sizeOf, typeInfo, hi, h, storeCells]

theorem wp_append_rdg {o : Oper} {a : Act} {K : Act → World → Prop} {Q' : Exit → Act → World → Prop} (w : World) (s x : Operand)
    (ho : o.op = .call { callee := .builtin .append, args := #[s, x], argTypes := #[28, 28] })
    (base : Nat) (v u : Value) (qs ns : List Q) (hs : a.eval s = v) (hown : OwQ base 32 w v qs) (hx : a.eval x = u) (hu : RdQ w u ns)
    (hlen : qs.length + ns.length ≤ 1000000) (hbase : base ≤ w.heap.size)
    (h : ∀ v' w', OwQ base 32 w' v' (qs ++ ns) → Below base w w' → w.grownBy w' v.ownBlock → K (a.put o.dst v') w') : o.wp Try.prog a w K Q' := by
  obtain ⟨i, hi, hz, hsz, hb⟩ := info_parts Try.infoQ
  obtain ⟨A, c, rfl, hl, hm, hc⟩ := hu
  rcases A with _ | ⟨g, off, sp⟩
  · by_cases hn : ns = []
    · subst hn
      obtain ⟨A, n, cap, rfl, hle⟩ : ∃ A n cap, v = .slice A n cap ∧ n ≤ cap := by
        rcases hown.2 with ⟨rfl, -⟩ | ⟨g, cap, cur, rfl, _, _, hle, _⟩
        · exact ⟨_, _, _, rfl, Nat.le_refl _⟩
        · exact ⟨_, _, _, rfl, hle⟩
      have hr := run_append_nil (P := Try.prog) w 28 o.type 32 i Try.underlying28 hi A n cap c hle
      unfold Oper.wp execOp
      simp only [List.length_nil] at hx
      simp only [ho, resolve, invoke, builtin, Sem.run_bind, Sem.run_pure, Result.andThen_ok, List.map_toArray, List.map_cons, List.map_nil, hs, hx, hr]
      exact h _ w (by rw [List.append_nil]; exact hown) (Below.refl _ _) (World.grownBy.refl _ _)
    · obtain ⟨g, o, e, -⟩ := hc hn
      simp at e
  · by_cases hn : ns = []
    · subst hn
      refine wp_append_own w s x 28 ho base 32 i _ 2 16 Try.underlying28 hi hz hsz hb rfl (by decide) v qs.length (rowQ qs) hs hown _ 0 c [] hx rfl (fun j u hj => by simp at hj) (fun u hu => by simp at hu) (by simp at hlen; unfold maxLen; omega) (by simp at hlen; omega) hbase ?_
      intro v' w' h1 h2 _
      refine h v' w' ?_ ((Below.refl _ _).grown h2 hbase (fun k hk => (hown.lt k hk).1)) h2
      unfold OwQ; rw [List.length_append, rowQ_app]; exact h1
    · obtain ⟨g', o', e, hg, hcell⟩ := hc hn
      simp only [Option.some.injEq, Addr.mk.injEq] at e
      obtain ⟨rfl, rfl, rfl⟩ := e
      have hcells : ∀ j u, (rowQ ns)[j]? = some u → w.cell? ((⟨g, off, none⟩ : Addr).add j) = some u := by
        intro j u hj
        have hjl : j < ns.length * 2 := by rw [← rowQ_len]; exact (List.getElem?_eq_some_iff.1 hj).1
        have hi2 : j / 2 < ns.length := by omega
        obtain ⟨b0, b1⟩ := rowQ_get ns (j / 2) _ (List.getElem?_eq_getElem hi2)
        obtain ⟨d0, d1⟩ := hcell (j / 2) _ (List.getElem?_eq_getElem hi2)
        have hadd : (⟨g, off, none⟩ : Addr).add j = ⟨g, off + j, none⟩ := by unfold Addr.add; split <;> simp_all
        rw [hadd]
        rcases Nat.mod_two_eq_zero_or_one j with e | e
        · have e2 : j = j / 2 * 2 := by omega
          rw [e2] at hj ⊢
          rw [b0] at hj; cases hj; exact d0
        · have e2 : j = j / 2 * 2 + 1 := by omega
          rw [e2] at hj ⊢
          rw [b1] at hj; cases hj; exact d1
      have hone : ∀ u ∈ rowQ ns, u.oneCell' = true := by
        intro u hu
        simp only [rowQ, List.mem_flatMap] at hu
        obtain ⟨q, _, hq⟩ := hu
        simp at hq
        rcases hq with rfl | rfl <;> rfl
      refine wp_append_own w s x 28 ho base 32 i _ 2 16 Try.underlying28 hi hz hsz hb rfl (by decide) v qs.length (rowQ qs) hs hown ⟨g, off, none⟩ ns.length c (rowQ ns) hx (rowQ_len _) hcells hone (by unfold maxLen; omega) (by omega) hbase ?_
      intro v' w' h1 h2 _
      refine h v' w' ?_ ((Below.refl _ _).grown h2 hbase (fun k hk => (hown.lt k hk).1)) h2
      unfold OwQ; rw [List.length_append, rowQ_app]; exact h1

theorem wp_append_rd {o : Oper} {a : Act} {K : Act → World → Prop} {Q' : Exit → Act → World → Prop} (w : World) (s x : Operand)
    (ho : o.op = .call { callee := .builtin .append, args := #[s, x], argTypes := #[28, 28] })
    (base : Nat) (v u : Value) (qs ns : List Q) (hs : a.eval s = v) (hown : OwQ base 32 w v qs) (hx : a.eval x = u) (hu : RdQ w u ns)
    (hlen : qs.length + ns.length ≤ 1000000) (hbase : base ≤ w.heap.size)
    (h : ∀ v' w', OwQ base 32 w' v' (qs ++ ns) → Below base w w' → K (a.put o.dst v') w') : o.wp Try.prog a w K Q' :=
  wp_append_rdg w s x ho base v u qs ns hs hown hx hu hlen hbase fun v' w' h1 h2 _ => h v' w' h1 h2

theorem step_append_rdg {ops : Array Oper} {o : Oper} {a : Act} {K : Act → World → Prop} {Q' : Exit → Act → World → Prop} {E : Prop} (w : World) (hgd : o.guard = none) (s x : Operand)
    (ho : o.op = .call { callee := .builtin .append, args := #[s, x], argTypes := #[28, 28] })
    (base : Nat) (v u : Value) (qs ns : List Q) (hs : a.eval s = v) (hown : OwQ base 32 w v qs) (hx : a.eval x = u) (hu : RdQ w u ns)
    (hlen : qs.length + ns.length ≤ 1000000) (hbase : base ≤ w.heap.size)
    (h : ∀ v' w', OwQ base 32 w' v' (qs ++ ns) → Below base w w' → w.grownBy w' v.ownBlock → K (a.put o.dst v') w') :
    if Region.wanted o (yielded ops a.tmps) = true then Oper.wp Try.prog o a w K Q' else E := by
  rw [if_pos (show Region.wanted o (yielded ops a.tmps) = true by simp [Region.wanted, hgd])]
  exact wp_append_rdg w s x ho base v u qs ns hs hown hx hu hlen hbase h

theorem step_append_rd {ops : Array Oper} {o : Oper} {a : Act} {K : Act → World → Prop} {Q' : Exit → Act → World → Prop} {E : Prop} (w : World) (hgd : o.guard = none) (s x : Operand)
    (ho : o.op = .call { callee := .builtin .append, args := #[s, x], argTypes := #[28, 28] })
    (base : Nat) (v u : Value) (qs ns : List Q) (hs : a.eval s = v) (hown : OwQ base 32 w v qs) (hx : a.eval x = u) (hu : RdQ w u ns)
    (hlen : qs.length + ns.length ≤ 1000000) (hbase : base ≤ w.heap.size)
    (h : ∀ v' w', OwQ base 32 w' v' (qs ++ ns) → Below base w w' → K (a.put o.dst v') w') :
    if Region.wanted o (yielded ops a.tmps) = true then Oper.wp Try.prog o a w K Q' else E := by
  rw [if_pos (show Region.wanted o (yielded ops a.tmps) = true by simp [Region.wanted, hgd])]
  exact wp_append_rd w s x ho base v u qs ns hs hown hx hu hlen hbase h

theorem append_rd {ops : Array Oper} {rest : List Oper} {o : Oper} {a : Act} {K : Exit → Act → World → Prop} (w : World) (hgd : o.guard = none) (s x : Operand)
    (ho : o.op = .call { callee := .builtin .append, args := #[s, x], argTypes := #[28, 28] })
    (base : Nat) (v u : Value) (qs ns : List Q) (hs : a.eval s = v) (hown : OwQ base 32 w v qs) (hx : a.eval x = u) (hu : RdQ w u ns)
    (hlen : qs.length + ns.length ≤ 1000000) (hbase : base ≤ w.heap.size)
    (h : ∀ v' w', OwQ base 32 w' v' (qs ++ ns) → Below base w w' → wpList Try.prog ops K rest (a.put o.dst v') w') : wpList Try.prog ops K (o :: rest) a w :=
  wpList_plain hgd fun _ hK => wp_append_rd w s x ho base v u qs ns hs hown hx hu hlen hbase fun v' w' h1 h2 => hK _ _ (h v' w' h1 h2)

end Go.Proofs.Ytkeajfgcjmhmiaa
